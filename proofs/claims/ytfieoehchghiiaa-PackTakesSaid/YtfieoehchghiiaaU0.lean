/-
  Plain laws on runes and bytes: what is decoded of two strings in a row; what is encoded is decoded back.
-/
import Derived.Test.YtfieoehchghiiaaS0
namespace Go.Proofs.Ytfieoehchghiiaa
open Go.RowKit
set_option linter.unusedVariables false

def bt (s : ByteArray) (k : Nat) : Nat := (s.get! k).toNat

theorem get_getD (s : ByteArray) (k : Nat) : s.get! k = s.data.toList.getD k 0 := by
  obtain ⟨⟨l⟩⟩ := s
  show (l.toArray)[k]! = l.getD k 0
  simp [List.getD]
  rfl

theorem bt_left (s t : ByteArray) (k : Nat) (h : k < s.size) : bt (s ++ t) k = bt s k := by
  unfold bt
  rw [get_getD, get_getD, ByteArray.data_append, Array.toList_append]
  have hl : k < s.data.toList.length := by rw [← Lib.size_eq]; exact h
  simp only [List.getD, List.getElem?_append_left hl]

theorem bt_right (s t : ByteArray) (k : Nat) : bt (s ++ t) (s.size + k) = bt t k := by
  unfold bt
  rw [get_getD, get_getD, ByteArray.data_append, Array.toList_append, Lib.size_eq]
  simp only [List.getD]
  rw [List.getElem?_append_right (by omega), Nat.add_sub_cancel_left]

def cont (s : ByteArray) (i : Nat) : Bool := decide (i < s.size) && (bt s i / 64 == 2)

theorem decode_eq (s : ByteArray) (i : Nat) : Utf8.decode s i =
    if bt s i < 128 then (bt s i, 1)
    else if (bt s i / 32 == 6 && cont s (i + 1)) = true then
      (if 128 ≤ (bt s i % 32) * 64 + bt s (i + 1) % 64 then ((bt s i % 32) * 64 + bt s (i + 1) % 64, 2) else (65533, 1))
    else if (bt s i / 16 == 14 && cont s (i + 1) && cont s (i + 2)) = true then
      (if (decide (2048 ≤ (bt s i % 16) * 4096 + (bt s (i + 1) % 64) * 64 + bt s (i + 2) % 64) && Utf8.valid (((bt s i % 16) * 4096 + (bt s (i + 1) % 64) * 64 + bt s (i + 2) % 64 : Nat) : Int)) = true
        then ((bt s i % 16) * 4096 + (bt s (i + 1) % 64) * 64 + bt s (i + 2) % 64, 3) else (65533, 1))
    else if (bt s i / 8 == 30 && cont s (i + 1) && cont s (i + 2) && cont s (i + 3)) = true then
      (if (decide (65536 ≤ (bt s i % 8) * 262144 + (bt s (i + 1) % 64) * 4096 + (bt s (i + 2) % 64) * 64 + bt s (i + 3) % 64) && Utf8.valid (((bt s i % 8) * 262144 + (bt s (i + 1) % 64) * 4096 + (bt s (i + 2) % 64) * 64 + bt s (i + 3) % 64 : Nat) : Int)) = true
        then ((bt s i % 8) * 262144 + (bt s (i + 1) % 64) * 4096 + (bt s (i + 2) % 64) * 64 + bt s (i + 3) % 64, 4) else (65533, 1))
    else (65533, 1) := by
  have h0 : ∀ k, (s.get! (i + k)).toNat = bt s (i + k) := fun _ => rfl
  have h1 : ∀ k, (decide (i + k < s.size) && bt s (i + k) / 64 == 2) = cont s (i + k) := fun _ => rfl
  unfold Utf8.decode Utf8.runeError
  dsimp only
  have h2 : (s.get! i).toNat = bt s i := rfl
  simp only [h0, h1, h2, Nat.add_zero, ge_iff_le]

theorem cont_left (s t : ByteArray) (ht : t.size = 0 ∨ bt t 0 < 128) (k : Nat) (h : k ≤ s.size) : cont (s ++ t) k = cont s k := by
  unfold cont
  by_cases hk : k < s.size
  · rw [bt_left s t k hk, ByteArray.size_append]
    have h1 : decide (k < s.size + t.size) = true := by simp; omega
    rw [h1, decide_eq_true hk]
  · obtain rfl : k = s.size := by omega
    rw [decide_eq_false hk, Bool.false_and, ByteArray.size_append]
    rcases ht with ht | ht
    · rw [decide_eq_false (by omega), Bool.false_and]
    · have h2 := bt_right s t 0
      rw [Nat.add_zero] at h2
      rw [h2]
      have h3 : (bt t 0 / 64 == 2) = false := by rw [beq_eq_false_iff_ne]; omega
      rw [h3, Bool.and_false]

theorem cont_end (s : ByteArray) (k : Nat) (h : s.size ≤ k) : cont s k = false := by
  unfold cont
  rw [decide_eq_false (by omega), Bool.false_and]

theorem decode_left (s t : ByteArray) (ht : t.size = 0 ∨ bt t 0 < 128) (i : Nat) (h : i < s.size) : Utf8.decode (s ++ t) i = Utf8.decode s i := by
  rw [decode_eq, decode_eq, bt_left s t i h, cont_left s t ht (i + 1) (by omega)]
  by_cases h1 : i + 1 < s.size
  · rw [bt_left s t (i + 1) h1, cont_left s t ht (i + 2) (by omega)]
    by_cases h2 : i + 2 < s.size
    · rw [bt_left s t (i + 2) h2, cont_left s t ht (i + 3) (by omega)]
      by_cases h3 : i + 3 < s.size
      · rw [bt_left s t (i + 3) h3]
      · rw [cont_end s (i + 3) (by omega)]
        simp only [Bool.and_false, Bool.false_eq_true, if_false]
    · rw [cont_end s (i + 2) (by omega)]
      simp only [Bool.and_false, Bool.false_and, Bool.false_eq_true, if_false]
  · rw [cont_end s (i + 1) (by omega)]
    simp only [Bool.and_false, Bool.false_and, Bool.false_eq_true, if_false]

theorem cont_right (s t : ByteArray) (k : Nat) : cont (s ++ t) (s.size + k) = cont t k := by
  unfold cont
  rw [bt_right, ByteArray.size_append]
  congr 1
  rw [decide_eq_decide]
  omega

theorem decode_right (s t : ByteArray) (j : Nat) : Utf8.decode (s ++ t) (s.size + j) = Utf8.decode t j := by
  rw [decode_eq, decode_eq]
  simp only [Nat.add_assoc, bt_right, cont_right]

theorem decode_width_le (s : ByteArray) (i : Nat) (h : i < s.size) : i + (Utf8.decode s i).2 ≤ s.size := by
  have hc : ∀ k, cont s k = true → k < s.size := by
    intro k hk
    unfold cont at hk
    simp only [Bool.and_eq_true, decide_eq_true_eq] at hk
    exact hk.1
  rw [decode_eq]
  split
  · show i + 1 ≤ _; omega
  · split
    · rename_i h2
      simp only [Bool.and_eq_true] at h2
      have := hc _ h2.2
      split <;> dsimp only <;> omega
    · split
      · rename_i h2
        simp only [Bool.and_eq_true] at h2
        have := hc _ h2.2
        split <;> dsimp only <;> omega
      · split
        · rename_i h2
          simp only [Bool.and_eq_true] at h2
          have := hc _ h2.2
          split <;> dsimp only <;> omega
        · show i + 1 ≤ _; omega

theorem runesAt_right (s t : ByteArray) : ∀ n j, t.size - j = n → runesAt (s ++ t) (s.size + j) = runesAt t j := by
  intro n
  induction n using Nat.strongRecOn with
  | ind n ih =>
    intro j hj
    by_cases h : j < t.size
    · rw [runesAt_step _ _ (by rw [ByteArray.size_append]; omega), runesAt_step _ _ h, decode_right]
      have hw := Lib.decode_width_pos t j h
      rw [Nat.add_assoc, ih (t.size - (j + (Utf8.decode t j).2)) (by omega) _ rfl]
    · rw [runesAt_end _ _ (by rw [ByteArray.size_append]; omega), runesAt_end _ _ h]

theorem runesAt_append (s t : ByteArray) (ht : t.size = 0 ∨ bt t 0 < 128) : ∀ n i, i ≤ s.size → s.size - i = n → runesAt (s ++ t) i = runesAt s i ++ runes t := by
  intro n
  induction n using Nat.strongRecOn with
  | ind n ih =>
    intro i hi hn
    by_cases h : i < s.size
    · rw [runesAt_step _ _ (by rw [ByteArray.size_append]; omega), runesAt_step _ _ h, decode_left s t ht i h]
      have hw := Lib.decode_width_pos s i h
      have hle := decode_width_le s i h
      rw [ih (s.size - (i + (Utf8.decode s i).2)) (by omega) _ hle rfl]
      rfl
    · obtain rfl : i = s.size := by omega
      rw [runesAt_end s _ h, List.nil_append]
      have := runesAt_right s t _ 0 rfl
      rw [Nat.add_zero] at this
      exact this

/-- Runes of two strings in a row, the second of which begins with a byte of ASCII (or is empty). -/
theorem runes_append (s t : ByteArray) (ht : t.size = 0 ∨ bt t 0 < 128) : runes (s ++ t) = runes s ++ runes t := runesAt_append s t ht _ 0 (Nat.zero_le _) rfl

end Go.Proofs.Ytfieoehchghiiaa
