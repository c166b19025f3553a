/-
  Walks: slices.Index, Contains, IndexFunc, ContainsFunc at numbers and strings; job.twice; job.may$1.
-/
import Derived.Test.YtfieoehchghiiaaChecked
import Derived.Test.YtfieoehchghiiaaJ0
namespace Go.Proofs.Ytfieoehchghiiaa
open Go.RowKit
set_option linter.unusedVariables false

/-- The place of the first one for which p holds, behind k; -1: there is none. -/
def idxZ {α : Type} (p : α → Bool) : List α → Nat → Int
  | [], _ => -1
  | y :: l, k => bif p y then (k : Int) else idxZ p l (k + 1)
theorem idxZ_nonneg {α : Type} (p : α → Bool) : ∀ (l : List α) (k : Nat), (0 ≤ idxZ p l k) ↔ l.any p = true
  | [], k => by simp [idxZ]
  | y :: l, k => by
    simp only [idxZ, List.any_cons]
    cases h : p y
    · simpa using idxZ_nonneg p l (k + 1)
    · simp
theorem idxZ_le {α : Type} (p : α → Bool) : ∀ (l : List α) (k : Nat), -1 ≤ idxZ p l k ∧ idxZ p l k < k + l.length + 1
  | [], k => by simp [idxZ]; omega
  | y :: l, k => by
    have := idxZ_le p l (k + 1)
    simp only [idxZ, List.length_cons]
    cases p y <;> simp only [cond_true, cond_false] <;> omega

/-- An element of a row of strings. -/
theorem Sl.str {w : World} {B n : Nat} {v : Value} {zs : List ByteArray} (h : Sl w B 1 v n (zs.map Value.string)) (k : Nat) (hk : k < n) :
    ∃ b off cap, v = .slice (some ⟨b, off, none⟩) n cap ∧ b < B ∧ ∃ hl : k < zs.length, w.cell? ⟨b, off + k, none⟩ = some (.string (zs[k]'hl)) := by
  obtain ⟨h1, a, cap, hv, h2, h3, h4⟩ := h
  rw [List.length_map, Nat.mul_one] at h1
  rcases h4 with h4 | ⟨b, off, rfl, hb, hc⟩
  · omega
  · refine ⟨b, off, cap, hv, hb, by omega, ?_⟩
    rw [hc k (by omega)]
    simp [show k < zs.length by omega]
/-- The first k elements. -/
theorem Sl.take {w : World} {B n : Nat} {b off cap : Nat} {cs : List Value} (h : Sl w B 1 (.slice (some ⟨b, off, none⟩) n cap) n cs) (k : Nat) (hk : k ≤ n) : Sl w B 1 (.slice (some ⟨b, off, none⟩) k cap) k (cs.take k) := by
  obtain ⟨h1, a, cap', hv, h2, h3, h4⟩ := h
  simp only [Value.slice.injEq, true_and] at hv
  obtain ⟨rfl, rfl⟩ := hv
  refine ⟨by simp; omega, _, cap, rfl, by omega, h3, ?_⟩
  rcases h4 with h4 | ⟨b', off', he, hb, hc⟩
  · exact .inl (by omega)
  · simp only [Option.some.injEq, Addr.mk.injEq, and_true] at he
    obtain ⟨rfl, rfl⟩ := he
    exact .inr ⟨b, off, rfl, hb, fun j hj => by rw [hc j (by omega), List.getElem?_take, if_pos (by omega)]⟩

set_option maxHeartbeats 400000 in
theorem IndexInt_c (l : List Int) (n : Nat) (v : Value) (x : Int) (B : Nat) (w : World) (h : Sl w B 1 v n (l.map (Value.int .i64))) (hn : l.length = n) :
    Calls Try.prog 101 #[v, .int .i64 x] w fun e w' => e = .returned (.int .i64 (idxZ (fun y => x == y) l 0)) ∧ w = w' := by
  obtain ⟨_, a, cap, rfl, hc, hm, _⟩ := id h
  have H := Lib.hid h
  have HN := Lib.hid hn
  have hnm : n ≤ 9223372036854775807 := by unfold maxLen at hm; omega
  clear h hn
  rename_i hx1 hx2
  clear hx1 hx2
  go_enter Try.func101, Try.ntmps101
  go_wp2
  go_loop [8] (fun q => ∃ k : Nat, q = .int .i64 k ∧ k ≤ n ∧ idxZ (fun y => x == y) (l.drop k) k = idxZ (fun y => x == y) l 0) (fun q => n - (intOf q).toNat)
  case atStart => exact ⟨0, rfl, Nat.zero_le _, rfl⟩
  case round =>
    obtain ⟨k, rfl, hk, hr⟩ := hrel
    by_cases hlt : k < n
    · obtain ⟨b, off, cp, e1, hb, g1, p0⟩ := H.out.int k hlt
      simp only [Value.slice.injEq, true_and] at e1
      obtain ⟨rfl, rfl⟩ := e1
      rw [List.drop_eq_getElem_cons g1] at hr
      generalize l[k] = y at *
      simp only [idxZ] at hr
      have HR := Lib.hid hr
      clear hr
      cases hxy : (x == y)
      all_goals
        have HXY := Lib.hid hxy
        go_wp2
      · go_round
        case rel => exact ⟨k + 1, by go_num, by omega, by rw [← HR.out, HXY.out]; rfl⟩
        case measure => simp [intOf]; omega
      · go_ret
        exact ⟨ret_int (by rw [← HR.out, HXY.out]; rfl), rfl⟩
    · rw [List.drop_of_length_le (by have := HN.out; omega)] at hr
      have HR := Lib.hid hr
      clear hr
      go_wp2
      go_ret
      exact ⟨ret_int (by rw [← HR.out]; rfl), rfl⟩

set_option maxHeartbeats 400000 in
theorem ContainsInt_c (l : List Int) (n : Nat) (v : Value) (x : Int) (B : Nat) (w : World) (h : Sl w B 1 v n (l.map (Value.int .i64))) (hn : l.length = n) :
    Calls Try.prog 78 #[v, .int .i64 x] w fun e w' => e = .returned (.bool (l.any (fun y => x == y))) ∧ w = w' := by
  have hz := idxZ_nonneg (fun y => x == y) l 0
  cases ha : l.any (fun y => x == y)
  all_goals
    rw [ha] at hz
    have HZ := Lib.hid hz
    clear hz ha
    go_enter Try.func78, Try.ntmps78
    go_wp2_with (go_at_call 101; refine (IndexInt_c l n v x B w h hn).mono ?_; rintro e w1 ⟨rfl, rfl⟩; generalize idxZ (fun y => x == y) l 0 = z at *)
    go_ret
    exact ⟨ret_bool (by have hz := HZ.out; simp only [Bool.false_eq_true, iff_false, iff_true] at hz; simpa using hz), rfl⟩

set_option maxHeartbeats 400000 in
theorem IndexStr_c (l : List ByteArray) (n : Nat) (v : Value) (x : ByteArray) (B : Nat) (w : World) (h : Sl w B 1 v n (l.map Value.string)) (hn : l.length = n) :
    Calls Try.prog 100 #[v, .string x] w fun e w' => e = .returned (.int .i64 (idxZ (fun y => decide (x = y)) l 0)) ∧ w = w' := by
  obtain ⟨_, a, cap, rfl, hc, hm, _⟩ := id h
  have H := Lib.hid h
  have HN := Lib.hid hn
  have hnm : n ≤ 9223372036854775807 := by unfold maxLen at hm; omega
  clear h hn
  rename_i hx1 hx2
  clear hx1 hx2
  go_enter Try.func100, Try.ntmps100
  go_wp2
  go_loop [8] (fun q => ∃ k : Nat, q = .int .i64 k ∧ k ≤ n ∧ idxZ (fun y => decide (x = y)) (l.drop k) k = idxZ (fun y => decide (x = y)) l 0) (fun q => n - (intOf q).toNat)
  case atStart => exact ⟨0, rfl, Nat.zero_le _, rfl⟩
  case round =>
    obtain ⟨k, rfl, hk, hr⟩ := hrel
    by_cases hlt : k < n
    · obtain ⟨b, off, cp, e1, hb, g1, p0⟩ := H.out.str k hlt
      simp only [Value.slice.injEq, true_and] at e1
      obtain ⟨rfl, rfl⟩ := e1
      rw [List.drop_eq_getElem_cons g1] at hr
      generalize l[k] = y at *
      simp only [idxZ] at hr
      have HR := Lib.hid hr
      clear hr
      have hb := bytes_inj x y
      by_cases hxy : x = y
      · have HXY : Hid (decide (x = y) = true) := decide_eq_true hxy
        have hq : (x.toList == y.toList) = true := by simpa using hb.2 hxy
        clear hb hxy
        go_wp2
        go_ret
        exact ⟨ret_int (by rw [← HR.out, HXY.out]; rfl), rfl⟩
      · have HXY : Hid (decide (x = y) = false) := decide_eq_false hxy
        have hq : (x.toList == y.toList) = false := by simpa using fun h => hxy (hb.1 h)
        clear hb hxy
        go_wp2
        go_round
        case rel => exact ⟨k + 1, by go_num, by omega, by rw [← HR.out, HXY.out]; rfl⟩
        case measure => simp [intOf]; omega
    · rw [List.drop_of_length_le (by have := HN.out; omega)] at hr
      have HR := Lib.hid hr
      clear hr
      go_wp2
      go_ret
      exact ⟨ret_int (by rw [← HR.out]; rfl), rfl⟩

set_option maxHeartbeats 400000 in
theorem ContainsStr_c (l : List ByteArray) (n : Nat) (v : Value) (x : ByteArray) (B : Nat) (w : World) (h : Sl w B 1 v n (l.map Value.string)) (hn : l.length = n) :
    Calls Try.prog 77 #[v, .string x] w fun e w' => e = .returned (.bool (l.any (fun y => decide (x = y)))) ∧ w = w' := by
  have hz := idxZ_nonneg (fun y => decide (x = y)) l 0
  cases ha : l.any (fun y => decide (x = y))
  all_goals
    rw [ha] at hz
    have HZ := Lib.hid hz
    clear hz ha
    go_enter Try.func77, Try.ntmps77
    go_wp2_with (go_at_call 100; refine (IndexStr_c l n v x B w h hn).mono ?_; rintro e w1 ⟨rfl, rfl⟩; generalize idxZ (fun y => decide (x = y)) l 0 = z at *)
    go_ret
    exact ⟨ret_bool (by have hz := HZ.out; simp only [Bool.false_eq_true, iff_false, iff_true] at hz; simpa using hz), rfl⟩

/-- Whether a row has something twice, behind those of s. -/
def twiceGo {α : Type} (p : α → α → Bool) : List α → List α → Bool
  | _, [] => false
  | s, x :: l => s.any (p x) || twiceGo p (s ++ [x]) l
def twiceB {α : Type} (p : α → α → Bool) (l : List α) : Bool := twiceGo p [] l

set_option maxHeartbeats 1000000 in
theorem twiceInt_c (l : List Int) (n : Nat) (v : Value) (B : Nat) (w : World) (h : Sl w B 1 v n (l.map (Value.int .i64))) (hn : l.length = n) :
    Calls Try.prog 73 #[v] w fun e w' => e = .returned (.bool (twiceB (fun x y => x == y) l)) ∧ w = w' := by
  obtain ⟨_, a, cap, rfl, hc, hm, _⟩ := id h
  have H := Lib.hid h
  have HN := Lib.hid hn
  have hnm : n ≤ 9223372036854775807 := by unfold maxLen at hm; omega
  have hcm : cap ≤ 9223372036854775807 := by unfold maxLen at hm; omega
  clear h hn
  rename_i hx1 hx2
  clear hx1 hx2
  go_enter Try.func73, Try.ntmps73
  go_wp2
  go_loop [7] (fun q => ∃ k : Nat, q = .int .i64 k ∧ k ≤ n ∧ twiceGo (fun x y => x == y) (l.take k) (l.drop k) = twiceB (fun x y => x == y) l) (fun q => n - (intOf q).toNat)
  case atStart => exact ⟨0, rfl, Nat.zero_le _, rfl⟩
  case round =>
    obtain ⟨k, rfl, hk, hr⟩ := hrel
    by_cases hlt : k < n
    · obtain ⟨b, off, cp, e1, hb, g1, p0⟩ := H.out.int k hlt
      simp only [Value.slice.injEq, true_and] at e1
      obtain ⟨rfl, rfl⟩ := e1
      have HT := Lib.hid (H.out.take k hk)
      rw [List.drop_eq_getElem_cons g1] at hr
      have hts := List.take_succ_eq_append_getElem g1
      have HL : Hid ((l.take k).length = k) := by simp [Hid]; omega
      generalize l[k] = y at *
      rw [← List.map_take] at HT
      simp only [twiceGo] at hr
      have HR := Lib.hid hr
      have HTS := Lib.hid hts
      clear hr hts
      cases hxy : (l.take k).any (fun z => y == z)
      all_goals
        have HXY := Lib.hid hxy
        clear hxy
        go_wp2_with (go_at_call 78; refine (ContainsInt_c (l.take k) k _ y B _ HT.out HL.out).mono ?_; rintro e w1 ⟨rfl, rfl⟩; rw [HXY.out])
      · go_round
        case rel => exact ⟨k + 1, by go_num, by omega, by rw [HTS.out, ← HR.out, HXY.out]; rfl⟩
        case measure => simp [intOf]; omega
      · go_ret
        exact ⟨ret_bool (by rw [← HR.out, HXY.out]; rfl), rfl⟩
    · rw [List.drop_of_length_le (by have := HN.out; omega)] at hr
      have HR := Lib.hid hr
      clear hr
      go_wp2
      go_ret
      exact ⟨ret_bool (by rw [← HR.out]; rfl), rfl⟩

set_option maxHeartbeats 1000000 in
theorem twiceStr_c (l : List ByteArray) (n : Nat) (v : Value) (B : Nat) (w : World) (h : Sl w B 1 v n (l.map Value.string)) (hn : l.length = n) :
    Calls Try.prog 34 #[v] w fun e w' => e = .returned (.bool (twiceB (fun x y => decide (x = y)) l)) ∧ w = w' := by
  obtain ⟨_, a, cap, rfl, hc, hm, _⟩ := id h
  have H := Lib.hid h
  have HN := Lib.hid hn
  have hnm : n ≤ 9223372036854775807 := by unfold maxLen at hm; omega
  have hcm : cap ≤ 9223372036854775807 := by unfold maxLen at hm; omega
  clear h hn
  rename_i hx1 hx2
  clear hx1 hx2
  go_enter Try.func34, Try.ntmps34
  go_wp2
  go_loop [7] (fun q => ∃ k : Nat, q = .int .i64 k ∧ k ≤ n ∧ twiceGo (fun x y => decide (x = y)) (l.take k) (l.drop k) = twiceB (fun x y => decide (x = y)) l) (fun q => n - (intOf q).toNat)
  case atStart => exact ⟨0, rfl, Nat.zero_le _, rfl⟩
  case round =>
    obtain ⟨k, rfl, hk, hr⟩ := hrel
    by_cases hlt : k < n
    · obtain ⟨b, off, cp, e1, hb, g1, p0⟩ := H.out.str k hlt
      simp only [Value.slice.injEq, true_and] at e1
      obtain ⟨rfl, rfl⟩ := e1
      have HT := Lib.hid (H.out.take k hk)
      rw [List.drop_eq_getElem_cons g1] at hr
      have hts := List.take_succ_eq_append_getElem g1
      have HL : Hid ((l.take k).length = k) := by simp [Hid]; omega
      generalize l[k] = y at *
      rw [← List.map_take] at HT
      simp only [twiceGo] at hr
      have HR := Lib.hid hr
      have HTS := Lib.hid hts
      clear hr hts
      cases hxy : (l.take k).any (fun z => decide (y = z))
      all_goals
        have HXY := Lib.hid hxy
        clear hxy
        go_wp2_with (go_at_call 77; refine (ContainsStr_c (l.take k) k _ y B _ HT.out HL.out).mono ?_; rintro e w1 ⟨rfl, rfl⟩; rw [HXY.out])
      · go_round
        case rel => exact ⟨k + 1, by go_num, by omega, by rw [HTS.out, ← HR.out, HXY.out]; rfl⟩
        case measure => simp [intOf]; omega
      · go_ret
        exact ⟨ret_bool (by rw [← HR.out, HXY.out]; rfl), rfl⟩
    · rw [List.drop_of_length_le (by have := HN.out; omega)] at hr
      have HR := Lib.hid hr
      clear hr
      go_wp2
      go_ret
      exact ⟨ret_bool (by rw [← HR.out]; rfl), rfl⟩

/-- A place that is none ahead of 'at'. -/
def outB (at_ y : Int) : Bool := decide (y < 0) || decide (at_ ≤ y)

set_option maxHeartbeats 400000 in
theorem may1_c (y at_ : Int) (b : Nat) (w : World) (h : w.cell? ⟨b, 0, none⟩ = some (.int .i64 at_)) :
    Calls Try.prog 75 #[.int .i64 y, .pointer (some ⟨b, 0, none⟩)] w fun e w' => e = .returned (.bool (outB at_ y)) ∧ w = w' := by
  cases h1 : decide (y < 0)
  all_goals
    have HO : Hid (outB at_ y = (decide (y < 0) || decide (at_ ≤ y))) := rfl
    go_enter Try.func75, Try.ntmps75
    go_wp2
    go_ret
    exact ⟨ret_bool (by rw [HO.out, h1]; simp), rfl⟩

set_option maxHeartbeats 400000 in
theorem IndexOut_c (l : List Int) (n : Nat) (v : Value) (at_ : Int) (b : Nat) (B : Nat) (w : World) (h : Sl w B 1 v n (l.map (Value.int .i64))) (hn : l.length = n) (hb : w.cell? ⟨b, 0, none⟩ = some (.int .i64 at_)) :
    Calls Try.prog 99 #[v, .func (.func 75) #[] #[.pointer (some ⟨b, 0, none⟩)]] w fun e w' => e = .returned (.int .i64 (idxZ (outB at_) l 0)) ∧ w = w' := by
  obtain ⟨_, a, cap, rfl, hc, hm, _⟩ := id h
  have H := Lib.hid h
  have HN := Lib.hid hn
  have HB := Lib.hid hb
  have hnm : n ≤ 9223372036854775807 := by unfold maxLen at hm; omega
  clear h hn hb
  rename_i hx1 hx2
  clear hx1 hx2
  go_enter Try.func99, Try.ntmps99
  go_wp2
  go_loop [8] (fun q => ∃ k : Nat, q = .int .i64 k ∧ k ≤ n ∧ idxZ (outB at_) (l.drop k) k = idxZ (outB at_) l 0) (fun q => n - (intOf q).toNat)
  case atStart => exact ⟨0, rfl, Nat.zero_le _, rfl⟩
  case round =>
    obtain ⟨k, rfl, hk, hr⟩ := hrel
    by_cases hlt : k < n
    · obtain ⟨b', off, cp, e1, hb', g1, p0⟩ := H.out.int k hlt
      simp only [Value.slice.injEq, true_and] at e1
      obtain ⟨rfl, rfl⟩ := e1
      rw [List.drop_eq_getElem_cons g1] at hr
      generalize l[k] = y at *
      simp only [idxZ] at hr
      have HR := Lib.hid hr
      clear hr
      cases hxy : outB at_ y
      all_goals
        have HXY := Lib.hid hxy
        clear hxy
        go_wp2_with (go_at_call 75; refine (may1_c y at_ b _ HB.out).mono ?_; rintro e w1 ⟨rfl, rfl⟩; rw [HXY.out])
      · go_round
        case rel => exact ⟨k + 1, by go_num, by omega, by rw [← HR.out, HXY.out]; rfl⟩
        case measure => simp [intOf]; omega
      · go_ret
        exact ⟨ret_int (by rw [← HR.out, HXY.out]; rfl), rfl⟩
    · rw [List.drop_of_length_le (by have := HN.out; omega)] at hr
      have HR := Lib.hid hr
      clear hr
      go_wp2
      go_ret
      exact ⟨ret_int (by rw [← HR.out]; rfl), rfl⟩

set_option maxHeartbeats 400000 in
theorem ContainsOut_c (l : List Int) (n : Nat) (v : Value) (at_ : Int) (b : Nat) (B : Nat) (w : World) (h : Sl w B 1 v n (l.map (Value.int .i64))) (hn : l.length = n) (hb : w.cell? ⟨b, 0, none⟩ = some (.int .i64 at_)) :
    Calls Try.prog 74 #[v, .func (.func 75) #[] #[.pointer (some ⟨b, 0, none⟩)]] w fun e w' => e = .returned (.bool (l.any (outB at_))) ∧ w = w' := by
  have hz := idxZ_nonneg (outB at_) l 0
  cases ha : l.any (outB at_)
  all_goals
    rw [ha] at hz
    have HZ := Lib.hid hz
    have HB := Lib.hid hb
    clear hz ha hb
    go_enter Try.func74, Try.ntmps74
    go_wp2_with (go_at_call 99; refine (IndexOut_c l n v at_ b B w h hn HB.out).mono ?_; rintro e w1 ⟨rfl, rfl⟩; generalize idxZ (outB at_) l 0 = z at *)
    go_ret
    exact ⟨ret_bool (by have hz := HZ.out; simp only [Bool.false_eq_true, iff_false, iff_true] at hz; simpa using hz), rfl⟩

end Go.Proofs.Ytfieoehchghiiaa
