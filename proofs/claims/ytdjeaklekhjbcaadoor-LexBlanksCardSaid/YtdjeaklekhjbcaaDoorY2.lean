/-
  Plain laws on runes and bytes: what is encoded is decoded back.
-/
import Derived.Test.YtdjeaklekhjbcaaDoorU0
namespace Go.Proofs.YtdjeaklekhjbcaaDoor
open Go.RowKit
set_option linter.unusedVariables false

theorem decode_valid (s : ByteArray) (i : Nat) : Utf8.valid ((Utf8.decode s i).1 : Int) = true := by
  have hv : ∀ c : Nat, c < 55296 → Utf8.valid (c : Int) = true := by
    intro c hc
    unfold Utf8.valid
    simp only [Bool.or_eq_true, Bool.and_eq_true, decide_eq_true_eq]
    omega
  have h3 : Utf8.valid ((65533 : Nat) : Int) = true := by decide
  rw [decode_eq]
  split
  · exact hv _ (by omega)
  · split
    · rename_i h
      split
      · exact hv _ (by dsimp only; omega)
      · exact h3
    · split
      · split
        · rename_i h
          simp only [Bool.and_eq_true] at h
          exact h.2
        · exact h3
      · split
        · split
          · rename_i h
            simp only [Bool.and_eq_true] at h
            exact h.2
          · exact h3
        · exact h3

theorem bt_lit (l : List UInt8) (t : ByteArray) (k : Nat) (h : k < l.length) : bt ((⟨l.toArray⟩ : ByteArray) ++ t) k = (l.getD k 0).toNat := by
  rw [bt_left _ _ _ (by show k < l.toArray.size; simpa using h)]
  unfold bt
  rw [get_getD]
theorem cont_lit (l : List UInt8) (t : ByteArray) (k : Nat) (h : k < l.length) (hc : (l.getD k 0).toNat / 64 = 2) : cont ((⟨l.toArray⟩ : ByteArray) ++ t) k = true := by
  unfold cont
  rw [bt_lit l t k h, hc, ByteArray.size_append]
  have : k < (⟨l.toArray⟩ : ByteArray).size + t.size := by
    have : (⟨l.toArray⟩ : ByteArray).size = l.length := by show l.toArray.size = _; simp
    omega
  simp [this]
theorem ofNat_toNat (n : Nat) (h : n < 256) : (UInt8.ofNat n).toNat = n := by simp; omega

theorem decode_encode (r : Int) (h : Utf8.valid r = true) (t : ByteArray) : Utf8.decode (Utf8.encode r ++ t) 0 = (r.toNat, (Utf8.encode r).size) := by
  have hr : (0 ≤ r ∧ r < 55296) ∨ (57344 ≤ r ∧ r ≤ 1114111) := by
    unfold Utf8.valid at h
    simpa only [Bool.or_eq_true, Bool.and_eq_true, decide_eq_true_eq] using h
  have hv : Utf8.valid ((r.toNat : Nat) : Int) = true := by rw [Int.toNat_of_nonneg (by omega)]; exact h
  have hle : r.toNat ≤ 1114111 := by omega
  unfold Utf8.encode
  rw [h]
  dsimp only
  rw [if_pos rfl]
  generalize r.toNat = c at *
  by_cases h1 : c < 128
  · rw [if_pos h1]
    have e0 := bt_lit [UInt8.ofNat c] t 0 (by simp)
    simp only [List.getD_cons_zero] at e0
    rw [ofNat_toNat c (by omega)] at e0
    rw [decode_eq, e0, if_pos h1]
    rfl
  · rw [if_neg h1]
    by_cases h2 : c < 2048
    · rw [if_pos h2]
      have e0 := bt_lit [UInt8.ofNat (192 + c / 64), UInt8.ofNat (128 + c % 64)] t 0 (by simp)
      have e1 := bt_lit [UInt8.ofNat (192 + c / 64), UInt8.ofNat (128 + c % 64)] t 1 (by simp)
      have d1 := cont_lit [UInt8.ofNat (192 + c / 64), UInt8.ofNat (128 + c % 64)] t 1 (by simp) (by simp only [List.getD_cons_succ, List.getD_cons_zero]; rw [ofNat_toNat _ (by omega)]; omega)
      simp only [List.getD_cons_zero, List.getD_cons_succ] at e0 e1
      rw [ofNat_toNat _ (by omega)] at e0 e1
      rw [decode_eq, Nat.zero_add, e0, e1, d1, if_neg (by omega), if_pos (by simp; omega), if_pos (by omega)]
      simp only [Prod.mk.injEq]
      exact ⟨by omega, rfl⟩
    · rw [if_neg h2]
      by_cases h3 : c < 65536
      · rw [if_pos h3]
        have e0 := bt_lit [UInt8.ofNat (224 + c / 4096), UInt8.ofNat (128 + c / 64 % 64), UInt8.ofNat (128 + c % 64)] t 0 (by simp)
        have e1 := bt_lit [UInt8.ofNat (224 + c / 4096), UInt8.ofNat (128 + c / 64 % 64), UInt8.ofNat (128 + c % 64)] t 1 (by simp)
        have e2 := bt_lit [UInt8.ofNat (224 + c / 4096), UInt8.ofNat (128 + c / 64 % 64), UInt8.ofNat (128 + c % 64)] t 2 (by simp)
        have d1 := cont_lit [UInt8.ofNat (224 + c / 4096), UInt8.ofNat (128 + c / 64 % 64), UInt8.ofNat (128 + c % 64)] t 1 (by simp) (by simp only [List.getD_cons_succ, List.getD_cons_zero]; rw [ofNat_toNat _ (by omega)]; omega)
        have d2 := cont_lit [UInt8.ofNat (224 + c / 4096), UInt8.ofNat (128 + c / 64 % 64), UInt8.ofNat (128 + c % 64)] t 2 (by simp) (by simp only [List.getD_cons_succ, List.getD_cons_zero]; rw [ofNat_toNat _ (by omega)]; omega)
        simp only [List.getD_cons_zero, List.getD_cons_succ] at e0 e1 e2
        rw [ofNat_toNat _ (by omega)] at e0 e1 e2
        have hc : (224 + c / 4096) % 16 * 4096 + (128 + c / 64 % 64) % 64 * 64 + (128 + c % 64) % 64 = c := by omega
        have n1 : ((224 + c / 4096) / 32 == 6) = false := by rw [beq_eq_false_iff_ne]; omega
        have n2 : ((224 + c / 4096) / 16 == 14) = true := by rw [beq_iff_eq]; omega
        rw [decode_eq, Nat.zero_add, Nat.zero_add, e0, e1, e2, d1, d2, if_neg (by omega), n1, n2, hc, hv]
        simp only [Bool.and_true, Bool.false_eq_true, if_false, if_true]
        rw [if_pos (by simp; omega)]
        rfl
      · rw [if_neg h3]
        have e0 := bt_lit [UInt8.ofNat (240 + c / 262144), UInt8.ofNat (128 + c / 4096 % 64), UInt8.ofNat (128 + c / 64 % 64), UInt8.ofNat (128 + c % 64)] t 0 (by simp)
        have e1 := bt_lit [UInt8.ofNat (240 + c / 262144), UInt8.ofNat (128 + c / 4096 % 64), UInt8.ofNat (128 + c / 64 % 64), UInt8.ofNat (128 + c % 64)] t 1 (by simp)
        have e2 := bt_lit [UInt8.ofNat (240 + c / 262144), UInt8.ofNat (128 + c / 4096 % 64), UInt8.ofNat (128 + c / 64 % 64), UInt8.ofNat (128 + c % 64)] t 2 (by simp)
        have e3 := bt_lit [UInt8.ofNat (240 + c / 262144), UInt8.ofNat (128 + c / 4096 % 64), UInt8.ofNat (128 + c / 64 % 64), UInt8.ofNat (128 + c % 64)] t 3 (by simp)
        have d1 := cont_lit [UInt8.ofNat (240 + c / 262144), UInt8.ofNat (128 + c / 4096 % 64), UInt8.ofNat (128 + c / 64 % 64), UInt8.ofNat (128 + c % 64)] t 1 (by simp) (by simp only [List.getD_cons_succ, List.getD_cons_zero]; rw [ofNat_toNat _ (by omega)]; omega)
        have d2 := cont_lit [UInt8.ofNat (240 + c / 262144), UInt8.ofNat (128 + c / 4096 % 64), UInt8.ofNat (128 + c / 64 % 64), UInt8.ofNat (128 + c % 64)] t 2 (by simp) (by simp only [List.getD_cons_succ, List.getD_cons_zero]; rw [ofNat_toNat _ (by omega)]; omega)
        have d3 := cont_lit [UInt8.ofNat (240 + c / 262144), UInt8.ofNat (128 + c / 4096 % 64), UInt8.ofNat (128 + c / 64 % 64), UInt8.ofNat (128 + c % 64)] t 3 (by simp) (by simp only [List.getD_cons_succ, List.getD_cons_zero]; rw [ofNat_toNat _ (by omega)]; omega)
        simp only [List.getD_cons_zero, List.getD_cons_succ] at e0 e1 e2 e3
        rw [ofNat_toNat _ (by omega)] at e0 e1 e2 e3
        have hc : (240 + c / 262144) % 8 * 262144 + (128 + c / 4096 % 64) % 64 * 4096 + (128 + c / 64 % 64) % 64 * 64 + (128 + c % 64) % 64 = c := by omega
        have n1 : ((240 + c / 262144) / 32 == 6) = false := by rw [beq_eq_false_iff_ne]; omega
        have n2 : ((240 + c / 262144) / 16 == 14) = false := by rw [beq_eq_false_iff_ne]; omega
        have n3 : ((240 + c / 262144) / 8 == 30) = true := by rw [beq_iff_eq]; omega
        rw [decode_eq, Nat.zero_add, Nat.zero_add, Nat.zero_add, e0, e1, e2, e3, d1, d2, d3, if_neg (by omega), n1, n2, n3, hc, hv]
        simp only [Bool.and_true, Bool.false_eq_true, if_false, if_true]
        rw [if_pos (by simp; omega)]
        rfl

theorem runes_encode (r : Int) (h : Utf8.valid r = true) (t : ByteArray) : runes (Utf8.encode r ++ t) = r :: runes t := by
  have h0 : 0 ≤ r := by
    unfold Utf8.valid at h
    simp only [Bool.or_eq_true, Bool.and_eq_true, decide_eq_true_eq] at h
    omega
  have hp := decode_encode r h t
  have hs : 0 < (Utf8.encode r).size := by
    unfold Utf8.encode
    dsimp only
    repeat' split
    all_goals simp [ByteArray.size]
  show runesAt _ 0 = _
  rw [runesAt_step _ 0 (by rw [ByteArray.size_append]; omega), hp]
  dsimp only
  have := runesAt_right (Utf8.encode r) t _ 0 rfl
  rw [Nat.add_zero] at this
  rw [Nat.zero_add, this, Int.toNat_of_nonneg h0]
  rfl

/-- Runes, encoded one behind the other. -/
def encL : List Int → ByteArray
  | [] => { data := #[] }
  | r :: l => Utf8.encode r ++ encL l
theorem empty_app (b : ByteArray) : ({ data := #[] } : ByteArray) ++ b = b := by
  apply ByteArray.ext
  rw [ByteArray.data_append]
  simp
theorem app_empty (b : ByteArray) : b ++ ({ data := #[] } : ByteArray) = b := by
  apply ByteArray.ext
  rw [ByteArray.data_append]
  simp
theorem encL_append : ∀ (l m : List Int), encL (l ++ m) = encL l ++ encL m
  | [], m => by simp only [List.nil_append, encL]; rw [empty_app]
  | r :: l, m => by simp only [List.cons_append, encL]; rw [encL_append l m, ByteArray.append_assoc]
theorem encL_one (r : Int) : encL [r] = Utf8.encode r := by simp only [encL]; rw [app_empty]
theorem encL_size : ∀ l : List Int, (encL l).size ≤ 4 * l.length
  | [] => by simp [encL, ByteArray.size]
  | r :: l => by
    have := encL_size l
    have := encode_size r
    simp only [encL, List.length_cons]
    rw [ByteArray.size_append]
    omega
theorem runes_encL : ∀ (l : List Int), (∀ r ∈ l, Utf8.valid r = true) → runes (encL l) = l
  | [], _ => by
    show runesAt _ 0 = _
    rw [runesAt_end _ _ (by simp [encL, ByteArray.size])]
  | r :: l, h => by
    simp only [encL]
    rw [runes_encode r (h r (by simp)), runes_encL l fun x hx => h x (by simp [hx])]

theorem runesAt_valid (s : ByteArray) : ∀ (n pos : Nat), s.size - pos = n → ∀ r ∈ runesAt s pos, Utf8.valid r = true := by
  intro n
  induction n using Nat.strongRecOn with
  | ind n ih =>
    intro pos hn r hr
    by_cases h : pos < s.size
    · rw [runesAt_step s pos h] at hr
      have hw := Lib.decode_width_pos s pos h
      rcases List.mem_cons.1 hr with rfl | hr
      · exact decode_valid s pos
      · exact ih _ (by omega) _ rfl r hr
    · rw [runesAt_end s pos h] at hr
      simp at hr

end Go.Proofs.YtdjeaklekhjbcaaDoor
