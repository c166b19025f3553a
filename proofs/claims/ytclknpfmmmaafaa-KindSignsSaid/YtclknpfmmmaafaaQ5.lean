/-
  The walk of KindSigns.
-/
import Derived.Test.YtclknpfmmmaafaaQ3
import Derived.Test.YtclknpfmmmaafaaT9
namespace Go.Proofs.Ytclknpfmmmaafaa
open Go.RowKit
set_option linter.unusedVariables false

/-- Where the two sides lie. -/
structure SideAt (w : World) (bn by_ ba : Nat) : Prop where
  num : Blk w bn 28 #[.int .u8 1, .int .i64 1, .slice none 0 0]
  yes : Blk w by_ 28 #[.int .u8 12, .int .i64 0, .slice (some ⟨ba, 0, none⟩) 2 2]
  args : Blk w ba 28 #[.int .u8 2, .int .i64 0, .slice none 0 0, .int .u8 3, .int .i64 0, .slice none 0 0]
theorem SideAt.below {w w' : World} {bn by_ ba : Nat} (h : SideAt w bn by_ ba) (hb : Below w.heap.size w w') : SideAt w' bn by_ ba := ⟨h.num.below hb h.num.lt, h.yes.below hb h.yes.lt, h.args.below hb h.args.lt⟩

/-- The side's slice. -/
def sideS (b : Bool) (ba : Nat) : Value := if b then .slice (some ⟨ba, 0, none⟩) 2 2 else .slice none 0 0
theorem SideAt.argsAt {w : World} {bn by_ ba : Nat} (h : SideAt w bn by_ ba) (b : Bool) : ArgsAt w w.heap.size (sideX b).args (sideS b ba) := by
  cases b
  · exact .nil none 0 (Nat.zero_le _)
  · exact ArgsAt.two (x := .mk 2 0 []) (y := .mk 3 0 []) h.args h.args.lt (.nil none 0 (Nat.zero_le _)) (.nil none 0 (Nat.zero_le _))

set_option maxHeartbeats 1000000 in
theorem side_c (b : Bool) (bn by_ ba : Nat) (w : World) (h : SideAt w bn by_ ba) :
    Calls Try.prog 17 #[.bool b, .pointer (some ⟨by_, 0, none⟩), .pointer (some ⟨bn, 0, none⟩)] w fun e w' => e = .returned (.agg #[.int .u8 (sideX b).op, .int .i64 (sideX b).n, sideS b ba]) ∧ Below w.heap.size w w' := by
  have n0 := h.num.cell 0
  have n1 := h.num.cell 1
  have n2 := h.num.cell 2
  have y0 := h.yes.cell 0
  have y1 := h.yes.cell 1
  have y2 := h.yes.cell 2
  have l1 := h.num.lt
  have l2 := h.yes.lt
  cases b
  · go_enter Try.func17, Try.ntmps17
    go_wp2_with fail
    have h0 := Blk.new w #[.int .u8 1, .int .i64 1, .slice none 0 0] 28
    refine bodyPost_ret (v := .agg #[.int .u8 1, .int .i64 1, .slice none 0 0]) (results_cell_row rfl _ _ w.heap.size 28 _ (0, 0) _ rfl h0 Try.underlying28 rfl ?_) rfl ⟨rfl, (Below.refl _ _).alloc (Nat.le_refl _) _⟩
    as_aux_lemma => kernel_rfl
  · go_enter Try.func17, Try.ntmps17
    go_wp2_with fail
    have h0 := Blk.new w #[.int .u8 12, .int .i64 0, .slice (some ⟨ba, 0, none⟩) 2 2] 28
    refine bodyPost_ret (v := .agg #[.int .u8 12, .int .i64 0, .slice (some ⟨ba, 0, none⟩) 2 2]) (results_cell_row rfl _ _ w.heap.size 28 _ (0, 0) _ rfl h0 Try.underlying28 rfl ?_) rfl ⟨rfl, (Below.refl _ _).alloc (Nat.le_refl _) _⟩
    as_aux_lemma => kernel_rfl

/-- The walk up to the type. -/
theorem signs_facts (op : Int) (a b : Bool) : ((op < 7 ∨ 17 < op) ∧ (signX op a b).typ false = (0, 2)) ∨ (7 ≤ op ∧ op ≤ 17 ∧ (signX op a b).typ false = (sgWant op a b, if sgWant op a b = 0 then 91 else 0)) := by
  by_cases h : op < 7 ∨ 17 < op
  · exact .inl ⟨h, sign_none op h a b⟩
  · refine .inr ⟨by omega, by omega, sign_typ op ?_ a b⟩
    have : op = 7 ∨ op = 8 ∨ op = 9 ∨ op = 10 ∨ op = 11 ∨ op = 12 ∨ op = 13 ∨ op = 14 ∨ op = 15 ∨ op = 16 ∨ op = 17 := by omega
    rcases this with rfl | rfl | rfl | rfl | rfl | rfl | rfl | rfl | rfl | rfl | rfl <;> simp

/-- The classes of signs, as the walk's tests ask for them. -/
def SgClass (op : Int) (b14 b15 b16 b12 b11 : Bool) : Prop := decide (op < 7) = false ∧ decide (17 < op) = false ∧ (op == 14) = b14 ∧ (op == 15) = b15 ∧ decide (16 ≤ op) = b16 ∧ decide (12 ≤ op) = b12 ∧ decide (op ≤ 11) = b11
theorem sg_classes {op : Int} (h1 : 7 ≤ op) (h2 : op ≤ 17) : SgClass op false false false false true ∨ SgClass op false false false true false ∨ SgClass op true false false true false ∨ SgClass op false true false true false ∨ SgClass op false false true true false := by
  have : op = 7 ∨ op = 8 ∨ op = 9 ∨ op = 10 ∨ op = 11 ∨ op = 12 ∨ op = 13 ∨ op = 14 ∨ op = 15 ∨ op = 16 ∨ op = 17 := by omega
  unfold SgClass
  rcases this with rfl | rfl | rfl | rfl | rfl | rfl | rfl | rfl | rfl | rfl | rfl <;> decide
def sgTbl (b14 b15 b16 b12 b11 a b : Bool) : Int := if a != b then 0 else if b14 || b15 || ((a == b16) && b12) then 2 else if b11 && !a then 1 else 0
theorem sg_tbl {op : Int} {b14 b15 b16 b12 b11 : Bool} (h : SgClass op b14 b15 b16 b12 b11) (a b : Bool) : sgWant op a b = sgTbl b14 b15 b16 b12 b11 a b := by
  obtain ⟨_, _, h3, h4, h5, h6, h7⟩ := h
  subst h3 h4 h5 h6 h7
  unfold sgWant sgTbl
  have e1 : (op = 14 ∨ op = 15 ∨ (a = decide (16 ≤ op) ∧ 12 ≤ op)) ↔ ((op == 14) || (op == 15) || ((a == decide (16 ≤ op)) && decide (12 ≤ op))) = true := by
    simp only [Bool.or_eq_true, Bool.and_eq_true, beq_iff_eq, decide_eq_true_eq, or_assoc]
  have e2 : (op ≤ 11 ∧ a = false) ↔ (decide (op ≤ 11) && !a) = true := by
    cases a <;> simp
  simp only [e1, e2]

theorem sg_alts_false_false (op t er : Int) (h : (signX op false false).typ false = (t, er)) : (decide (op < 7) = true ∧ (t == 0) = true ∧ (er == 2) = true) ∨ (decide (op < 7) = false ∧ decide (17 < op) = true ∧ (t == 0) = true ∧ (er == 2) = true) ∨ (SgClass op false false false false true ∧ (t == 1) = true ∧ (er == 0) = true) ∨ (SgClass op false false false true false ∧ (t == 2) = true ∧ (er == 0) = true) ∨ (SgClass op true false false true false ∧ (t == 2) = true ∧ (er == 0) = true) ∨ (SgClass op false true false true false ∧ (t == 2) = true ∧ (er == 0) = true) ∨ (SgClass op false false true true false ∧ (t == 0) = true ∧ (er == 0) = false) := by
  rcases signs_facts op false false with ⟨hr, hp⟩ | ⟨h1, h2, hp⟩
  · rw [hp] at h
    obtain ⟨rfl, rfl⟩ := Prod.mk.inj h
    by_cases h7 : op < 7
    · exact .inl ⟨by simpa using h7, rfl, rfl⟩
    · exact .inr (.inl ⟨by simpa using h7, (by have : 17 < op := (by omega); simpa using this), rfl, rfl⟩)
  · rw [hp] at h
    obtain ⟨h3, h4⟩ := Prod.mk.inj h
    rcases sg_classes h1 h2 with hc | hc | hc | hc | hc
    · rw [sg_tbl hc false false, show sgTbl false false false false true false false = 1 from rfl] at h3 h4
      subst h3
      subst h4
      exact .inr (.inr (.inl ⟨hc, rfl, rfl⟩))
    · rw [sg_tbl hc false false, show sgTbl false false false true false false false = 2 from rfl] at h3 h4
      subst h3
      subst h4
      exact .inr (.inr (.inr (.inl ⟨hc, rfl, rfl⟩)))
    · rw [sg_tbl hc false false, show sgTbl true false false true false false false = 2 from rfl] at h3 h4
      subst h3
      subst h4
      exact .inr (.inr (.inr (.inr (.inl ⟨hc, rfl, rfl⟩))))
    · rw [sg_tbl hc false false, show sgTbl false true false true false false false = 2 from rfl] at h3 h4
      subst h3
      subst h4
      exact .inr (.inr (.inr (.inr (.inr (.inl ⟨hc, rfl, rfl⟩)))))
    · rw [sg_tbl hc false false, show sgTbl false false true true false false false = 0 from rfl] at h3 h4
      subst h3
      subst h4
      exact .inr (.inr (.inr (.inr (.inr (.inr (⟨hc, rfl, rfl⟩))))))
set_option maxRecDepth 100000 in
set_option maxHeartbeats 8000000 in
theorem kSigns_false_false (op : Int) (w : World) : Calls Try.prog 5 #[.int .u8 op, .bool false, .bool false] w fun e w' => e = .returned (.bool true) ∧ Below w.heap.size w w' := by
  obtain ⟨⟨t, er⟩, hpp⟩ : ∃ p, (signX op false false).typ false = p := ⟨_, rfl⟩
  have HAL := Lib.hid (sg_alts_false_false op t er hpp)
  have HOF := Lib.hid (fun v B W => Of_c (signX op false false) false v B W)
  rw [hpp] at HOF
  have hB := (((Below.refl _ w).alloc (Nat.le_refl _) (.cells #[.int .u8 2, .int .i64 0, .slice none 0 0, .int .u8 3, .int .i64 0, .slice none 0 0] 28)).alloc (by simp) (.cells #[.int .u8 1, .int .i64 1, .slice none 0 0] 28)).alloc (by simp; omega) (.cells #[.int .u8 12, .int .i64 0, .slice (some ⟨w.heap.size, 0, none⟩) 2 2] 28)
  have hS : SideAt (((w.alloc (.cells #[.int .u8 2, .int .i64 0, .slice none 0 0, .int .u8 3, .int .i64 0, .slice none 0 0] 28)).alloc (.cells #[.int .u8 1, .int .i64 1, .slice none 0 0] 28)).alloc (.cells #[.int .u8 12, .int .i64 0, .slice (some ⟨w.heap.size, 0, none⟩) 2 2] 28)) (w.heap.size + 1) (w.heap.size + 1 + 1) w.heap.size :=
    ⟨(Blk.new_at _ _ _ (by simp)).alloc _, Blk.new_at _ _ _ (by simp), ((Blk.new _ _ _).alloc _).alloc _⟩
  clear hpp
  go_enter Try.func5, Try.ntmps5
  go_upto_region 3 with fail
  generalize World.alloc (World.alloc (World.alloc w _) _) _ = W at *
  go_wp2_with fail
  refine (side_c false _ _ _ _ hS).mono ?_
  rintro e w1 ⟨rfl, hq1⟩
  dsimp only [sideX, sideS, Ex.op, Ex.n, if_true, if_false, Bool.false_eq_true, ite_true, ite_false]
  have hS1 := hS.below hq1
  have hB1 := hB.trans (hq1.mono hB.size)
  clear hS hB hq1
  go_wp2_with fail
  refine (side_c false _ _ _ _ hS1).mono ?_
  rintro e w2 ⟨rfl, hq2⟩
  dsimp only [sideX, sideS, Ex.op, Ex.n, if_true, if_false, Bool.false_eq_true, ite_true, ite_false]
  have hS2 := hS1.below hq2
  have hB2 := hB1.trans (hq2.mono hB1.size)
  clear hS1 hB1 hq2
  have hA := (Below.refl w2.heap.size w2).alloc (Nat.le_refl _) (.cells #[.int .u8 1, .int .i64 1, .slice none 0 0, .int .u8 1, .int .i64 1, .slice none 0 0] 28)
  have hN : Blk (w2.alloc (.cells #[.int .u8 1, .int .i64 1, .slice none 0 0, .int .u8 1, .int .i64 1, .slice none 0 0] 28)) w2.heap.size 28 #[.int .u8 (sideX false).op, .int .i64 (sideX false).n, sideS false w.heap.size, .int .u8 (sideX false).op, .int .i64 (sideX false).n, sideS false w.heap.size] := Blk.new _ _ _
  have HX : Hid (ExAt (w2.alloc (.cells #[.int .u8 1, .int .i64 1, .slice none 0 0, .int .u8 1, .int .i64 1, .slice none 0 0] 28)) (w2.alloc (.cells #[.int .u8 1, .int .i64 1, .slice none 0 0, .int .u8 1, .int .i64 1, .slice none 0 0] 28)).heap.size (.agg #[.int .u8 op, .int .i64 0, .slice (some ⟨w2.heap.size, 0, none⟩) 2 2]) (signX op false false)) :=
    ⟨_, rfl, ArgsAt.two (x := sideX false) (y := sideX false) hN hN.lt (((hS2.argsAt false).keep hA).mono hA.size) (((hS2.argsAt false).keep hA).mono hA.size)⟩
  have HB2 := Lib.hid (hB2.trans (hA.mono hB2.size))
  have hs2 : w.heap.size ≤ (w2.alloc (.cells #[.int .u8 1, .int .i64 1, .slice none 0 0, .int .u8 1, .int .i64 1, .slice none 0 0] 28)).heap.size := HB2.out.size
  clear hS2 hB2 hA hN
  go_upto_region 4 with (go_at_call 16; refine (HOF.out _ _ _ HX.out (Nat.le_refl _)).mono ?_; rintro e w3 ⟨rfl, hq3⟩; have hB3 := HB2.out.trans (hq3.mono hs2); clear hq3)
  have HB3 := Lib.hid hB3
  clear hB3 HX HB2 hs2 HOF
  have hal := HAL.out
  clear HAL
  rcases hal with ⟨c1, c2, c3⟩ | ⟨c1, c2, c3, c4⟩ | ⟨⟨c1, c2, c3, c4, c5, c6, c7⟩, c8, c9⟩ | ⟨⟨c1, c2, c3, c4, c5, c6, c7⟩, c8, c9⟩ | ⟨⟨c1, c2, c3, c4, c5, c6, c7⟩, c8, c9⟩ | ⟨⟨c1, c2, c3, c4, c5, c6, c7⟩, c8, c9⟩ | ⟨⟨c1, c2, c3, c4, c5, c6, c7⟩, c8, c9⟩
  all_goals
    go_wp2_with (go_at_call 14; refine (kworks_c _).mono ?_; rintro e w9 ⟨rfl, hq9⟩)
    go_ret
    exact ⟨rfl, HB3.out.trans (hq9.mono HB3.out.size)⟩

theorem sg_alts_false_true (op t er : Int) (h : (signX op false true).typ false = (t, er)) : (decide (op < 7) = true ∧ (t == 0) = true ∧ (er == 2) = true) ∨ (decide (op < 7) = false ∧ decide (17 < op) = true ∧ (t == 0) = true ∧ (er == 2) = true) ∨ (SgClass op false false false false true ∧ (t == 0) = true ∧ (er == 0) = false) ∨ (SgClass op false false false true false ∧ (t == 0) = true ∧ (er == 0) = false) ∨ (SgClass op true false false true false ∧ (t == 0) = true ∧ (er == 0) = false) ∨ (SgClass op false true false true false ∧ (t == 0) = true ∧ (er == 0) = false) ∨ (SgClass op false false true true false ∧ (t == 0) = true ∧ (er == 0) = false) := by
  rcases signs_facts op false true with ⟨hr, hp⟩ | ⟨h1, h2, hp⟩
  · rw [hp] at h
    obtain ⟨rfl, rfl⟩ := Prod.mk.inj h
    by_cases h7 : op < 7
    · exact .inl ⟨by simpa using h7, rfl, rfl⟩
    · exact .inr (.inl ⟨by simpa using h7, (by have : 17 < op := (by omega); simpa using this), rfl, rfl⟩)
  · rw [hp] at h
    obtain ⟨h3, h4⟩ := Prod.mk.inj h
    rcases sg_classes h1 h2 with hc | hc | hc | hc | hc
    · rw [sg_tbl hc false true, show sgTbl false false false false true false true = 0 from rfl] at h3 h4
      subst h3
      subst h4
      exact .inr (.inr (.inl ⟨hc, rfl, rfl⟩))
    · rw [sg_tbl hc false true, show sgTbl false false false true false false true = 0 from rfl] at h3 h4
      subst h3
      subst h4
      exact .inr (.inr (.inr (.inl ⟨hc, rfl, rfl⟩)))
    · rw [sg_tbl hc false true, show sgTbl true false false true false false true = 0 from rfl] at h3 h4
      subst h3
      subst h4
      exact .inr (.inr (.inr (.inr (.inl ⟨hc, rfl, rfl⟩))))
    · rw [sg_tbl hc false true, show sgTbl false true false true false false true = 0 from rfl] at h3 h4
      subst h3
      subst h4
      exact .inr (.inr (.inr (.inr (.inr (.inl ⟨hc, rfl, rfl⟩)))))
    · rw [sg_tbl hc false true, show sgTbl false false true true false false true = 0 from rfl] at h3 h4
      subst h3
      subst h4
      exact .inr (.inr (.inr (.inr (.inr (.inr (⟨hc, rfl, rfl⟩))))))
set_option maxRecDepth 100000 in
set_option maxHeartbeats 8000000 in
theorem kSigns_false_true (op : Int) (w : World) : Calls Try.prog 5 #[.int .u8 op, .bool false, .bool true] w fun e w' => e = .returned (.bool true) ∧ Below w.heap.size w w' := by
  obtain ⟨⟨t, er⟩, hpp⟩ : ∃ p, (signX op false true).typ false = p := ⟨_, rfl⟩
  have HAL := Lib.hid (sg_alts_false_true op t er hpp)
  have HOF := Lib.hid (fun v B W => Of_c (signX op false true) false v B W)
  rw [hpp] at HOF
  have hB := (((Below.refl _ w).alloc (Nat.le_refl _) (.cells #[.int .u8 2, .int .i64 0, .slice none 0 0, .int .u8 3, .int .i64 0, .slice none 0 0] 28)).alloc (by simp) (.cells #[.int .u8 1, .int .i64 1, .slice none 0 0] 28)).alloc (by simp; omega) (.cells #[.int .u8 12, .int .i64 0, .slice (some ⟨w.heap.size, 0, none⟩) 2 2] 28)
  have hS : SideAt (((w.alloc (.cells #[.int .u8 2, .int .i64 0, .slice none 0 0, .int .u8 3, .int .i64 0, .slice none 0 0] 28)).alloc (.cells #[.int .u8 1, .int .i64 1, .slice none 0 0] 28)).alloc (.cells #[.int .u8 12, .int .i64 0, .slice (some ⟨w.heap.size, 0, none⟩) 2 2] 28)) (w.heap.size + 1) (w.heap.size + 1 + 1) w.heap.size :=
    ⟨(Blk.new_at _ _ _ (by simp)).alloc _, Blk.new_at _ _ _ (by simp), ((Blk.new _ _ _).alloc _).alloc _⟩
  clear hpp
  go_enter Try.func5, Try.ntmps5
  go_upto_region 3 with fail
  generalize World.alloc (World.alloc (World.alloc w _) _) _ = W at *
  go_wp2_with fail
  refine (side_c false _ _ _ _ hS).mono ?_
  rintro e w1 ⟨rfl, hq1⟩
  dsimp only [sideX, sideS, Ex.op, Ex.n, if_true, if_false, Bool.false_eq_true, ite_true, ite_false]
  have hS1 := hS.below hq1
  have hB1 := hB.trans (hq1.mono hB.size)
  clear hS hB hq1
  go_wp2_with fail
  refine (side_c true _ _ _ _ hS1).mono ?_
  rintro e w2 ⟨rfl, hq2⟩
  dsimp only [sideX, sideS, Ex.op, Ex.n, if_true, if_false, Bool.false_eq_true, ite_true, ite_false]
  have hS2 := hS1.below hq2
  have hB2 := hB1.trans (hq2.mono hB1.size)
  clear hS1 hB1 hq2
  have hA := (Below.refl w2.heap.size w2).alloc (Nat.le_refl _) (.cells #[.int .u8 1, .int .i64 1, .slice none 0 0, .int .u8 12, .int .i64 0, .slice (some ⟨w.heap.size, 0, none⟩) 2 2] 28)
  have hN : Blk (w2.alloc (.cells #[.int .u8 1, .int .i64 1, .slice none 0 0, .int .u8 12, .int .i64 0, .slice (some ⟨w.heap.size, 0, none⟩) 2 2] 28)) w2.heap.size 28 #[.int .u8 (sideX false).op, .int .i64 (sideX false).n, sideS false w.heap.size, .int .u8 (sideX true).op, .int .i64 (sideX true).n, sideS true w.heap.size] := Blk.new _ _ _
  have HX : Hid (ExAt (w2.alloc (.cells #[.int .u8 1, .int .i64 1, .slice none 0 0, .int .u8 12, .int .i64 0, .slice (some ⟨w.heap.size, 0, none⟩) 2 2] 28)) (w2.alloc (.cells #[.int .u8 1, .int .i64 1, .slice none 0 0, .int .u8 12, .int .i64 0, .slice (some ⟨w.heap.size, 0, none⟩) 2 2] 28)).heap.size (.agg #[.int .u8 op, .int .i64 0, .slice (some ⟨w2.heap.size, 0, none⟩) 2 2]) (signX op false true)) :=
    ⟨_, rfl, ArgsAt.two (x := sideX false) (y := sideX true) hN hN.lt (((hS2.argsAt false).keep hA).mono hA.size) (((hS2.argsAt true).keep hA).mono hA.size)⟩
  have HB2 := Lib.hid (hB2.trans (hA.mono hB2.size))
  have hs2 : w.heap.size ≤ (w2.alloc (.cells #[.int .u8 1, .int .i64 1, .slice none 0 0, .int .u8 12, .int .i64 0, .slice (some ⟨w.heap.size, 0, none⟩) 2 2] 28)).heap.size := HB2.out.size
  clear hS2 hB2 hA hN
  go_upto_region 4 with (go_at_call 16; refine (HOF.out _ _ _ HX.out (Nat.le_refl _)).mono ?_; rintro e w3 ⟨rfl, hq3⟩; have hB3 := HB2.out.trans (hq3.mono hs2); clear hq3)
  have HB3 := Lib.hid hB3
  clear hB3 HX HB2 hs2 HOF
  have hal := HAL.out
  clear HAL
  rcases hal with ⟨c1, c2, c3⟩ | ⟨c1, c2, c3, c4⟩ | ⟨⟨c1, c2, c3, c4, c5, c6, c7⟩, c8, c9⟩ | ⟨⟨c1, c2, c3, c4, c5, c6, c7⟩, c8, c9⟩ | ⟨⟨c1, c2, c3, c4, c5, c6, c7⟩, c8, c9⟩ | ⟨⟨c1, c2, c3, c4, c5, c6, c7⟩, c8, c9⟩ | ⟨⟨c1, c2, c3, c4, c5, c6, c7⟩, c8, c9⟩
  all_goals
    go_wp2_with (go_at_call 14; refine (kworks_c _).mono ?_; rintro e w9 ⟨rfl, hq9⟩)
    go_ret
    exact ⟨rfl, HB3.out.trans (hq9.mono HB3.out.size)⟩

theorem sg_alts_true_false (op t er : Int) (h : (signX op true false).typ false = (t, er)) : (decide (op < 7) = true ∧ (t == 0) = true ∧ (er == 2) = true) ∨ (decide (op < 7) = false ∧ decide (17 < op) = true ∧ (t == 0) = true ∧ (er == 2) = true) ∨ (SgClass op false false false false true ∧ (t == 0) = true ∧ (er == 0) = false) ∨ (SgClass op false false false true false ∧ (t == 0) = true ∧ (er == 0) = false) ∨ (SgClass op true false false true false ∧ (t == 0) = true ∧ (er == 0) = false) ∨ (SgClass op false true false true false ∧ (t == 0) = true ∧ (er == 0) = false) ∨ (SgClass op false false true true false ∧ (t == 0) = true ∧ (er == 0) = false) := by
  rcases signs_facts op true false with ⟨hr, hp⟩ | ⟨h1, h2, hp⟩
  · rw [hp] at h
    obtain ⟨rfl, rfl⟩ := Prod.mk.inj h
    by_cases h7 : op < 7
    · exact .inl ⟨by simpa using h7, rfl, rfl⟩
    · exact .inr (.inl ⟨by simpa using h7, (by have : 17 < op := (by omega); simpa using this), rfl, rfl⟩)
  · rw [hp] at h
    obtain ⟨h3, h4⟩ := Prod.mk.inj h
    rcases sg_classes h1 h2 with hc | hc | hc | hc | hc
    · rw [sg_tbl hc true false, show sgTbl false false false false true true false = 0 from rfl] at h3 h4
      subst h3
      subst h4
      exact .inr (.inr (.inl ⟨hc, rfl, rfl⟩))
    · rw [sg_tbl hc true false, show sgTbl false false false true false true false = 0 from rfl] at h3 h4
      subst h3
      subst h4
      exact .inr (.inr (.inr (.inl ⟨hc, rfl, rfl⟩)))
    · rw [sg_tbl hc true false, show sgTbl true false false true false true false = 0 from rfl] at h3 h4
      subst h3
      subst h4
      exact .inr (.inr (.inr (.inr (.inl ⟨hc, rfl, rfl⟩))))
    · rw [sg_tbl hc true false, show sgTbl false true false true false true false = 0 from rfl] at h3 h4
      subst h3
      subst h4
      exact .inr (.inr (.inr (.inr (.inr (.inl ⟨hc, rfl, rfl⟩)))))
    · rw [sg_tbl hc true false, show sgTbl false false true true false true false = 0 from rfl] at h3 h4
      subst h3
      subst h4
      exact .inr (.inr (.inr (.inr (.inr (.inr (⟨hc, rfl, rfl⟩))))))
set_option maxRecDepth 100000 in
set_option maxHeartbeats 8000000 in
theorem kSigns_true_false (op : Int) (w : World) : Calls Try.prog 5 #[.int .u8 op, .bool true, .bool false] w fun e w' => e = .returned (.bool true) ∧ Below w.heap.size w w' := by
  obtain ⟨⟨t, er⟩, hpp⟩ : ∃ p, (signX op true false).typ false = p := ⟨_, rfl⟩
  have HAL := Lib.hid (sg_alts_true_false op t er hpp)
  have HOF := Lib.hid (fun v B W => Of_c (signX op true false) false v B W)
  rw [hpp] at HOF
  have hB := (((Below.refl _ w).alloc (Nat.le_refl _) (.cells #[.int .u8 2, .int .i64 0, .slice none 0 0, .int .u8 3, .int .i64 0, .slice none 0 0] 28)).alloc (by simp) (.cells #[.int .u8 1, .int .i64 1, .slice none 0 0] 28)).alloc (by simp; omega) (.cells #[.int .u8 12, .int .i64 0, .slice (some ⟨w.heap.size, 0, none⟩) 2 2] 28)
  have hS : SideAt (((w.alloc (.cells #[.int .u8 2, .int .i64 0, .slice none 0 0, .int .u8 3, .int .i64 0, .slice none 0 0] 28)).alloc (.cells #[.int .u8 1, .int .i64 1, .slice none 0 0] 28)).alloc (.cells #[.int .u8 12, .int .i64 0, .slice (some ⟨w.heap.size, 0, none⟩) 2 2] 28)) (w.heap.size + 1) (w.heap.size + 1 + 1) w.heap.size :=
    ⟨(Blk.new_at _ _ _ (by simp)).alloc _, Blk.new_at _ _ _ (by simp), ((Blk.new _ _ _).alloc _).alloc _⟩
  clear hpp
  go_enter Try.func5, Try.ntmps5
  go_upto_region 3 with fail
  generalize World.alloc (World.alloc (World.alloc w _) _) _ = W at *
  go_wp2_with fail
  refine (side_c true _ _ _ _ hS).mono ?_
  rintro e w1 ⟨rfl, hq1⟩
  dsimp only [sideX, sideS, Ex.op, Ex.n, if_true, if_false, Bool.false_eq_true, ite_true, ite_false]
  have hS1 := hS.below hq1
  have hB1 := hB.trans (hq1.mono hB.size)
  clear hS hB hq1
  go_wp2_with fail
  refine (side_c false _ _ _ _ hS1).mono ?_
  rintro e w2 ⟨rfl, hq2⟩
  dsimp only [sideX, sideS, Ex.op, Ex.n, if_true, if_false, Bool.false_eq_true, ite_true, ite_false]
  have hS2 := hS1.below hq2
  have hB2 := hB1.trans (hq2.mono hB1.size)
  clear hS1 hB1 hq2
  have hA := (Below.refl w2.heap.size w2).alloc (Nat.le_refl _) (.cells #[.int .u8 12, .int .i64 0, .slice (some ⟨w.heap.size, 0, none⟩) 2 2, .int .u8 1, .int .i64 1, .slice none 0 0] 28)
  have hN : Blk (w2.alloc (.cells #[.int .u8 12, .int .i64 0, .slice (some ⟨w.heap.size, 0, none⟩) 2 2, .int .u8 1, .int .i64 1, .slice none 0 0] 28)) w2.heap.size 28 #[.int .u8 (sideX true).op, .int .i64 (sideX true).n, sideS true w.heap.size, .int .u8 (sideX false).op, .int .i64 (sideX false).n, sideS false w.heap.size] := Blk.new _ _ _
  have HX : Hid (ExAt (w2.alloc (.cells #[.int .u8 12, .int .i64 0, .slice (some ⟨w.heap.size, 0, none⟩) 2 2, .int .u8 1, .int .i64 1, .slice none 0 0] 28)) (w2.alloc (.cells #[.int .u8 12, .int .i64 0, .slice (some ⟨w.heap.size, 0, none⟩) 2 2, .int .u8 1, .int .i64 1, .slice none 0 0] 28)).heap.size (.agg #[.int .u8 op, .int .i64 0, .slice (some ⟨w2.heap.size, 0, none⟩) 2 2]) (signX op true false)) :=
    ⟨_, rfl, ArgsAt.two (x := sideX true) (y := sideX false) hN hN.lt (((hS2.argsAt true).keep hA).mono hA.size) (((hS2.argsAt false).keep hA).mono hA.size)⟩
  have HB2 := Lib.hid (hB2.trans (hA.mono hB2.size))
  have hs2 : w.heap.size ≤ (w2.alloc (.cells #[.int .u8 12, .int .i64 0, .slice (some ⟨w.heap.size, 0, none⟩) 2 2, .int .u8 1, .int .i64 1, .slice none 0 0] 28)).heap.size := HB2.out.size
  clear hS2 hB2 hA hN
  go_upto_region 4 with (go_at_call 16; refine (HOF.out _ _ _ HX.out (Nat.le_refl _)).mono ?_; rintro e w3 ⟨rfl, hq3⟩; have hB3 := HB2.out.trans (hq3.mono hs2); clear hq3)
  have HB3 := Lib.hid hB3
  clear hB3 HX HB2 hs2 HOF
  have hal := HAL.out
  clear HAL
  rcases hal with ⟨c1, c2, c3⟩ | ⟨c1, c2, c3, c4⟩ | ⟨⟨c1, c2, c3, c4, c5, c6, c7⟩, c8, c9⟩ | ⟨⟨c1, c2, c3, c4, c5, c6, c7⟩, c8, c9⟩ | ⟨⟨c1, c2, c3, c4, c5, c6, c7⟩, c8, c9⟩ | ⟨⟨c1, c2, c3, c4, c5, c6, c7⟩, c8, c9⟩ | ⟨⟨c1, c2, c3, c4, c5, c6, c7⟩, c8, c9⟩
  all_goals
    go_wp2_with (go_at_call 14; refine (kworks_c _).mono ?_; rintro e w9 ⟨rfl, hq9⟩)
    go_ret
    exact ⟨rfl, HB3.out.trans (hq9.mono HB3.out.size)⟩

theorem sg_alts_true_true (op t er : Int) (h : (signX op true true).typ false = (t, er)) : (decide (op < 7) = true ∧ (t == 0) = true ∧ (er == 2) = true) ∨ (decide (op < 7) = false ∧ decide (17 < op) = true ∧ (t == 0) = true ∧ (er == 2) = true) ∨ (SgClass op false false false false true ∧ (t == 0) = true ∧ (er == 0) = false) ∨ (SgClass op false false false true false ∧ (t == 0) = true ∧ (er == 0) = false) ∨ (SgClass op true false false true false ∧ (t == 2) = true ∧ (er == 0) = true) ∨ (SgClass op false true false true false ∧ (t == 2) = true ∧ (er == 0) = true) ∨ (SgClass op false false true true false ∧ (t == 2) = true ∧ (er == 0) = true) := by
  rcases signs_facts op true true with ⟨hr, hp⟩ | ⟨h1, h2, hp⟩
  · rw [hp] at h
    obtain ⟨rfl, rfl⟩ := Prod.mk.inj h
    by_cases h7 : op < 7
    · exact .inl ⟨by simpa using h7, rfl, rfl⟩
    · exact .inr (.inl ⟨by simpa using h7, (by have : 17 < op := (by omega); simpa using this), rfl, rfl⟩)
  · rw [hp] at h
    obtain ⟨h3, h4⟩ := Prod.mk.inj h
    rcases sg_classes h1 h2 with hc | hc | hc | hc | hc
    · rw [sg_tbl hc true true, show sgTbl false false false false true true true = 0 from rfl] at h3 h4
      subst h3
      subst h4
      exact .inr (.inr (.inl ⟨hc, rfl, rfl⟩))
    · rw [sg_tbl hc true true, show sgTbl false false false true false true true = 0 from rfl] at h3 h4
      subst h3
      subst h4
      exact .inr (.inr (.inr (.inl ⟨hc, rfl, rfl⟩)))
    · rw [sg_tbl hc true true, show sgTbl true false false true false true true = 2 from rfl] at h3 h4
      subst h3
      subst h4
      exact .inr (.inr (.inr (.inr (.inl ⟨hc, rfl, rfl⟩))))
    · rw [sg_tbl hc true true, show sgTbl false true false true false true true = 2 from rfl] at h3 h4
      subst h3
      subst h4
      exact .inr (.inr (.inr (.inr (.inr (.inl ⟨hc, rfl, rfl⟩)))))
    · rw [sg_tbl hc true true, show sgTbl false false true true false true true = 2 from rfl] at h3 h4
      subst h3
      subst h4
      exact .inr (.inr (.inr (.inr (.inr (.inr (⟨hc, rfl, rfl⟩))))))
set_option maxRecDepth 100000 in
set_option maxHeartbeats 8000000 in
theorem kSigns_true_true (op : Int) (w : World) : Calls Try.prog 5 #[.int .u8 op, .bool true, .bool true] w fun e w' => e = .returned (.bool true) ∧ Below w.heap.size w w' := by
  obtain ⟨⟨t, er⟩, hpp⟩ : ∃ p, (signX op true true).typ false = p := ⟨_, rfl⟩
  have HAL := Lib.hid (sg_alts_true_true op t er hpp)
  have HOF := Lib.hid (fun v B W => Of_c (signX op true true) false v B W)
  rw [hpp] at HOF
  have hB := (((Below.refl _ w).alloc (Nat.le_refl _) (.cells #[.int .u8 2, .int .i64 0, .slice none 0 0, .int .u8 3, .int .i64 0, .slice none 0 0] 28)).alloc (by simp) (.cells #[.int .u8 1, .int .i64 1, .slice none 0 0] 28)).alloc (by simp; omega) (.cells #[.int .u8 12, .int .i64 0, .slice (some ⟨w.heap.size, 0, none⟩) 2 2] 28)
  have hS : SideAt (((w.alloc (.cells #[.int .u8 2, .int .i64 0, .slice none 0 0, .int .u8 3, .int .i64 0, .slice none 0 0] 28)).alloc (.cells #[.int .u8 1, .int .i64 1, .slice none 0 0] 28)).alloc (.cells #[.int .u8 12, .int .i64 0, .slice (some ⟨w.heap.size, 0, none⟩) 2 2] 28)) (w.heap.size + 1) (w.heap.size + 1 + 1) w.heap.size :=
    ⟨(Blk.new_at _ _ _ (by simp)).alloc _, Blk.new_at _ _ _ (by simp), ((Blk.new _ _ _).alloc _).alloc _⟩
  clear hpp
  go_enter Try.func5, Try.ntmps5
  go_upto_region 3 with fail
  generalize World.alloc (World.alloc (World.alloc w _) _) _ = W at *
  go_wp2_with fail
  refine (side_c true _ _ _ _ hS).mono ?_
  rintro e w1 ⟨rfl, hq1⟩
  dsimp only [sideX, sideS, Ex.op, Ex.n, if_true, if_false, Bool.false_eq_true, ite_true, ite_false]
  have hS1 := hS.below hq1
  have hB1 := hB.trans (hq1.mono hB.size)
  clear hS hB hq1
  go_wp2_with fail
  refine (side_c true _ _ _ _ hS1).mono ?_
  rintro e w2 ⟨rfl, hq2⟩
  dsimp only [sideX, sideS, Ex.op, Ex.n, if_true, if_false, Bool.false_eq_true, ite_true, ite_false]
  have hS2 := hS1.below hq2
  have hB2 := hB1.trans (hq2.mono hB1.size)
  clear hS1 hB1 hq2
  have hA := (Below.refl w2.heap.size w2).alloc (Nat.le_refl _) (.cells #[.int .u8 12, .int .i64 0, .slice (some ⟨w.heap.size, 0, none⟩) 2 2, .int .u8 12, .int .i64 0, .slice (some ⟨w.heap.size, 0, none⟩) 2 2] 28)
  have hN : Blk (w2.alloc (.cells #[.int .u8 12, .int .i64 0, .slice (some ⟨w.heap.size, 0, none⟩) 2 2, .int .u8 12, .int .i64 0, .slice (some ⟨w.heap.size, 0, none⟩) 2 2] 28)) w2.heap.size 28 #[.int .u8 (sideX true).op, .int .i64 (sideX true).n, sideS true w.heap.size, .int .u8 (sideX true).op, .int .i64 (sideX true).n, sideS true w.heap.size] := Blk.new _ _ _
  have HX : Hid (ExAt (w2.alloc (.cells #[.int .u8 12, .int .i64 0, .slice (some ⟨w.heap.size, 0, none⟩) 2 2, .int .u8 12, .int .i64 0, .slice (some ⟨w.heap.size, 0, none⟩) 2 2] 28)) (w2.alloc (.cells #[.int .u8 12, .int .i64 0, .slice (some ⟨w.heap.size, 0, none⟩) 2 2, .int .u8 12, .int .i64 0, .slice (some ⟨w.heap.size, 0, none⟩) 2 2] 28)).heap.size (.agg #[.int .u8 op, .int .i64 0, .slice (some ⟨w2.heap.size, 0, none⟩) 2 2]) (signX op true true)) :=
    ⟨_, rfl, ArgsAt.two (x := sideX true) (y := sideX true) hN hN.lt (((hS2.argsAt true).keep hA).mono hA.size) (((hS2.argsAt true).keep hA).mono hA.size)⟩
  have HB2 := Lib.hid (hB2.trans (hA.mono hB2.size))
  have hs2 : w.heap.size ≤ (w2.alloc (.cells #[.int .u8 12, .int .i64 0, .slice (some ⟨w.heap.size, 0, none⟩) 2 2, .int .u8 12, .int .i64 0, .slice (some ⟨w.heap.size, 0, none⟩) 2 2] 28)).heap.size := HB2.out.size
  clear hS2 hB2 hA hN
  go_upto_region 4 with (go_at_call 16; refine (HOF.out _ _ _ HX.out (Nat.le_refl _)).mono ?_; rintro e w3 ⟨rfl, hq3⟩; have hB3 := HB2.out.trans (hq3.mono hs2); clear hq3)
  have HB3 := Lib.hid hB3
  clear hB3 HX HB2 hs2 HOF
  have hal := HAL.out
  clear HAL
  rcases hal with ⟨c1, c2, c3⟩ | ⟨c1, c2, c3, c4⟩ | ⟨⟨c1, c2, c3, c4, c5, c6, c7⟩, c8, c9⟩ | ⟨⟨c1, c2, c3, c4, c5, c6, c7⟩, c8, c9⟩ | ⟨⟨c1, c2, c3, c4, c5, c6, c7⟩, c8, c9⟩ | ⟨⟨c1, c2, c3, c4, c5, c6, c7⟩, c8, c9⟩ | ⟨⟨c1, c2, c3, c4, c5, c6, c7⟩, c8, c9⟩
  all_goals
    go_wp2_with (go_at_call 14; refine (kworks_c _).mono ?_; rintro e w9 ⟨rfl, hq9⟩)
    go_ret
    exact ⟨rfl, HB3.out.trans (hq9.mono HB3.out.size)⟩

theorem kSigns_c (op : Int) (a b : Bool) (wop : (Lit.int .u8 op).wf = true) (w : World) : Calls Try.prog 5 #[.int .u8 op, .bool a, .bool b] w fun e w' => e = .returned (.bool true) ∧ Below w.heap.size w w' := by
  cases a <;> cases b
  · exact kSigns_false_false op w
  · exact kSigns_false_true op w
  · exact kSigns_true_false op w
  · exact kSigns_true_true op w

end Go.Proofs.Ytclknpfmmmaafaa
