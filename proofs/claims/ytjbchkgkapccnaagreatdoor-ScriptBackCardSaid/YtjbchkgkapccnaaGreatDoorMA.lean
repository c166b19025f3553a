/-
  The imports of all texts, and plain definitions of what the functions of 'names' and 'lex' compute (no program in sight).
  Plain laws on runes and bytes: what is decoded of two strings in a row; what is encoded is decoded back.
  Plain: words, numbers, parts and lines of a text, by its bytes.
  Plain laws on worlds: a frame with a set of blocks that may turn; blocks known whole; slices that read as lists.
  Expressions: plain data, how they lie in a world, and how they come out of a reading.
  Plain definitions: what lex.Tokens computes.
  Plain laws: the cells of tokens; a slice of tokens without its first one.
  Walks of the small functions of 'names'.
  Blocks known whole, as a row; kept as memory is made.
  Expressions out of a reading.
  Walks of the reference's names: letter, Runes, Name.
-/
import Derived.WalkKit
import Derived.WalkSpells
import Derived.WalkLawsBesides
import Derived.Handy
import Derived.Lib.Hide
import Derived.Lib.RuneCount
import Derived.Lib.Strings
import Derived.Lib.OthersKept
import Derived.Deep.QuietTactic
import Derived.BigQuiet
import Derived.Deep.DeepFit
import Derived.Deep.RegionWith
import Derived.Deep.DeepCutAuto
import Derived.Deep.LoopGhost
import Derived.StillTailTactics
import Derived.Lib.SplitLaws
import Derived.Lib.Atoi
import Derived.Deep.Slices
import Derived.Test.YtjbchkgkapccnaaGreatDoorChecked
import Derived.ProofKit
import Derived.Lib.SmallJoins

namespace Go.Proofs.YtjbchkgkapccnaaGreatDoor
open Go.RowKit
set_option linter.unusedVariables false

theorem ret_bool {a b : Bool} (h : a = b) : Ending.returned (.bool a) = .returned (.bool b) := by rw [h]
theorem ret_int {k : IntKind} {a b : Int} (h : a = b) : Ending.returned (.int k a) = .returned (.int k b) := by rw [h]

theorem bytes_inj (a b : ByteArray) : a.toList = b.toList ↔ a = b := by
  rw [ByteArray.toList_eq, ByteArray.toList_eq]
  obtain ⟨⟨x⟩⟩ := a
  obtain ⟨⟨y⟩⟩ := b
  simp

/-- A letter of a name. -/
def letterB (r : Int) : Bool := decide (97 ≤ r ∧ r ≤ 122 ∨ 65 ≤ r ∧ r ≤ 90 ∨ 191 < r ∧ r ≠ 65533)
/-- What may stand later in a name. -/
def laterB (r : Int) : Bool := letterB r || decide (48 ≤ r ∧ r ≤ 57 ∨ r = 45)

theorem encode_size (r : Int) : (Utf8.encode r).size ≤ 4 := by
  unfold Utf8.encode
  dsimp only
  repeat' split
  all_goals simp [ByteArray.size]

/-- The runes of a string from a place on. -/
def runesF (s : ByteArray) : Nat → Nat → List Int
  | 0, _ => []
  | f + 1, pos => if pos < s.size then ((Utf8.decode s pos).1 : Int) :: runesF s f (pos + (Utf8.decode s pos).2) else []
def runesAt (s : ByteArray) (pos : Nat) : List Int := runesF s (s.size - pos) pos

theorem runesF_enough (s : ByteArray) : ∀ f g pos, s.size - pos ≤ f → s.size - pos ≤ g → runesF s f pos = runesF s g pos := by
  intro f
  induction f with
  | zero =>
    intro g pos h1 h2
    cases g with
    | zero => rfl
    | succ g => simp only [runesF]; rw [if_neg (by omega)]
  | succ f ih =>
    intro g pos h1 h2
    by_cases hp : pos < s.size
    · cases g with
      | zero => omega
      | succ g =>
        simp only [runesF]
        rw [if_pos hp, if_pos hp]
        have hw := Lib.decode_width_pos s pos hp
        rw [ih g _ (by omega) (by omega)]
    · cases g with
      | zero => simp only [runesF]; rw [if_neg hp]
      | succ g => simp only [runesF]; rw [if_neg hp, if_neg hp]

theorem runesAt_end (s : ByteArray) (pos : Nat) (h : ¬ pos < s.size) : runesAt s pos = [] := by
  unfold runesAt
  rw [show s.size - pos = 0 by omega]
  rfl
theorem runesAt_step (s : ByteArray) (pos : Nat) (h : pos < s.size) : runesAt s pos = ((Utf8.decode s pos).1 : Int) :: runesAt s (pos + (Utf8.decode s pos).2) := by
  have hw := Lib.decode_width_pos s pos h
  unfold runesAt
  obtain ⟨f, hf⟩ : ∃ f, s.size - pos = f + 1 := ⟨s.size - pos - 1, by omega⟩
  rw [hf]
  simp only [runesF]
  rw [if_pos h]
  rw [runesF_enough s f (s.size - (pos + (Utf8.decode s pos).2)) _ (by omega) (by omega)]
def runes (s : ByteArray) : List Int := runesAt s 0

theorem runesAt_length (s : ByteArray) (pos : Nat) : (runesAt s pos).length ≤ s.size - pos := by
  unfold runesAt
  generalize s.size - pos = f
  induction f generalizing pos with
  | zero => simp [runesF]
  | succ f ih =>
    simp only [runesF]
    split
    · simp only [List.length_cons]; have := ih (pos + (Utf8.decode s pos).2); omega
    · simp

theorem runesAt_ascii (s : ByteArray) (ha : ∀ b ∈ s.data.toList, b.toNat < 128) : ∀ n pos, s.size - pos = n → runesAt s pos = (s.data.toList.drop pos).map (fun b => (b.toNat : Int)) := by
  intro n
  induction n with
  | zero =>
    intro pos h
    rw [runesAt_end s pos (by omega), List.drop_of_length_le (by rw [← Lib.size_eq]; omega)]
    rfl
  | succ n ih =>
    intro pos h
    have hp : pos < s.size := by omega
    have hl : pos < s.data.toList.length := by rw [← Lib.size_eq]; exact hp
    have hm : (s[pos]'hp) ∈ s.data.toList := by
      rw [show (s[pos]'hp) = s.data.toList[pos] from rfl]
      exact List.getElem_mem hl
    rw [runesAt_step s pos hp, decode_ascii s pos hp (ha _ hm), ih (pos + 1) (by omega), List.drop_eq_getElem_cons hl]
    rfl
theorem runes_ascii (s : ByteArray) (ha : ∀ b ∈ s.data.toList, b.toNat < 128) : runes s = s.data.toList.map (fun b => (b.toNat : Int)) := by
  unfold runes
  rw [runesAt_ascii s ha _ 0 rfl]
  rfl

/-- What 'names.Name' tells of the runes, n of them being behind it. -/
def nameGo : Nat → List Int → Bool
  | n, [] => decide (0 < n ∧ n ≤ 24)
  | n, r :: rs => if (n = 0 ∧ letterB r = false) ∨ laterB r = false then false else nameGo (n + 1) rs

def nameB (s : ByteArray) : Bool := nameGo 0 (runes s)

end Go.Proofs.YtjbchkgkapccnaaGreatDoor

namespace Go.Proofs.YtjbchkgkapccnaaGreatDoor
open Go.RowKit
set_option linter.unusedVariables false

def bt (s : ByteArray) (k : Nat) : Nat := (s.get! k).toNat

theorem get_getD (s : ByteArray) (k : Nat) : s.get! k = s.data.toList.getD k 0 := by
  obtain ⟨⟨l⟩⟩ := s
  show (l.toArray)[k]! = l.getD k 0
  simp [List.getD]
  rfl

theorem bt_left (s t : ByteArray) (k : Nat) (h : k < s.size) : bt (s ++ t) k = bt s k := by
  unfold bt
  rw [get_getD, get_getD, ByteArray.data_append, Array.toList_append]
  have hl : k < s.data.toList.length := by rw [← Lib.size_eq]; exact h
  simp only [List.getD, List.getElem?_append_left hl]

theorem bt_right (s t : ByteArray) (k : Nat) : bt (s ++ t) (s.size + k) = bt t k := by
  unfold bt
  rw [get_getD, get_getD, ByteArray.data_append, Array.toList_append, Lib.size_eq]
  simp only [List.getD]
  rw [List.getElem?_append_right (by omega), Nat.add_sub_cancel_left]

def cont (s : ByteArray) (i : Nat) : Bool := decide (i < s.size) && (bt s i / 64 == 2)

theorem decode_eq (s : ByteArray) (i : Nat) : Utf8.decode s i =
    if bt s i < 128 then (bt s i, 1)
    else if (bt s i / 32 == 6 && cont s (i + 1)) = true then
      (if 128 ≤ (bt s i % 32) * 64 + bt s (i + 1) % 64 then ((bt s i % 32) * 64 + bt s (i + 1) % 64, 2) else (65533, 1))
    else if (bt s i / 16 == 14 && cont s (i + 1) && cont s (i + 2)) = true then
      (if (decide (2048 ≤ (bt s i % 16) * 4096 + (bt s (i + 1) % 64) * 64 + bt s (i + 2) % 64) && Utf8.valid (((bt s i % 16) * 4096 + (bt s (i + 1) % 64) * 64 + bt s (i + 2) % 64 : Nat) : Int)) = true
        then ((bt s i % 16) * 4096 + (bt s (i + 1) % 64) * 64 + bt s (i + 2) % 64, 3) else (65533, 1))
    else if (bt s i / 8 == 30 && cont s (i + 1) && cont s (i + 2) && cont s (i + 3)) = true then
      (if (decide (65536 ≤ (bt s i % 8) * 262144 + (bt s (i + 1) % 64) * 4096 + (bt s (i + 2) % 64) * 64 + bt s (i + 3) % 64) && Utf8.valid (((bt s i % 8) * 262144 + (bt s (i + 1) % 64) * 4096 + (bt s (i + 2) % 64) * 64 + bt s (i + 3) % 64 : Nat) : Int)) = true
        then ((bt s i % 8) * 262144 + (bt s (i + 1) % 64) * 4096 + (bt s (i + 2) % 64) * 64 + bt s (i + 3) % 64, 4) else (65533, 1))
    else (65533, 1) := by
  have h0 : ∀ k, (s.get! (i + k)).toNat = bt s (i + k) := fun _ => rfl
  have h1 : ∀ k, (decide (i + k < s.size) && bt s (i + k) / 64 == 2) = cont s (i + k) := fun _ => rfl
  unfold Utf8.decode Utf8.runeError
  dsimp only
  have h2 : (s.get! i).toNat = bt s i := rfl
  simp only [h0, h1, h2, Nat.add_zero, ge_iff_le]

theorem cont_left (s t : ByteArray) (ht : t.size = 0 ∨ bt t 0 < 128) (k : Nat) (h : k ≤ s.size) : cont (s ++ t) k = cont s k := by
  unfold cont
  by_cases hk : k < s.size
  · rw [bt_left s t k hk, ByteArray.size_append]
    have h1 : decide (k < s.size + t.size) = true := by simp; omega
    rw [h1, decide_eq_true hk]
  · obtain rfl : k = s.size := by omega
    rw [decide_eq_false hk, Bool.false_and, ByteArray.size_append]
    rcases ht with ht | ht
    · rw [decide_eq_false (by omega), Bool.false_and]
    · have h2 := bt_right s t 0
      rw [Nat.add_zero] at h2
      rw [h2]
      have h3 : (bt t 0 / 64 == 2) = false := by rw [beq_eq_false_iff_ne]; omega
      rw [h3, Bool.and_false]

theorem cont_end (s : ByteArray) (k : Nat) (h : s.size ≤ k) : cont s k = false := by
  unfold cont
  rw [decide_eq_false (by omega), Bool.false_and]

theorem decode_left (s t : ByteArray) (ht : t.size = 0 ∨ bt t 0 < 128) (i : Nat) (h : i < s.size) : Utf8.decode (s ++ t) i = Utf8.decode s i := by
  rw [decode_eq, decode_eq, bt_left s t i h, cont_left s t ht (i + 1) (by omega)]
  by_cases h1 : i + 1 < s.size
  · rw [bt_left s t (i + 1) h1, cont_left s t ht (i + 2) (by omega)]
    by_cases h2 : i + 2 < s.size
    · rw [bt_left s t (i + 2) h2, cont_left s t ht (i + 3) (by omega)]
      by_cases h3 : i + 3 < s.size
      · rw [bt_left s t (i + 3) h3]
      · rw [cont_end s (i + 3) (by omega)]
        simp only [Bool.and_false, Bool.false_eq_true, if_false]
    · rw [cont_end s (i + 2) (by omega)]
      simp only [Bool.and_false, Bool.false_and, Bool.false_eq_true, if_false]
  · rw [cont_end s (i + 1) (by omega)]
    simp only [Bool.and_false, Bool.false_and, Bool.false_eq_true, if_false]

theorem cont_right (s t : ByteArray) (k : Nat) : cont (s ++ t) (s.size + k) = cont t k := by
  unfold cont
  rw [bt_right, ByteArray.size_append]
  congr 1
  rw [decide_eq_decide]
  omega

theorem decode_right (s t : ByteArray) (j : Nat) : Utf8.decode (s ++ t) (s.size + j) = Utf8.decode t j := by
  rw [decode_eq, decode_eq]
  simp only [Nat.add_assoc, bt_right, cont_right]

theorem decode_width_le (s : ByteArray) (i : Nat) (h : i < s.size) : i + (Utf8.decode s i).2 ≤ s.size := by
  have hc : ∀ k, cont s k = true → k < s.size := by
    intro k hk
    unfold cont at hk
    simp only [Bool.and_eq_true, decide_eq_true_eq] at hk
    exact hk.1
  rw [decode_eq]
  split
  · show i + 1 ≤ _; omega
  · split
    · rename_i h2
      simp only [Bool.and_eq_true] at h2
      have := hc _ h2.2
      split <;> dsimp only <;> omega
    · split
      · rename_i h2
        simp only [Bool.and_eq_true] at h2
        have := hc _ h2.2
        split <;> dsimp only <;> omega
      · split
        · rename_i h2
          simp only [Bool.and_eq_true] at h2
          have := hc _ h2.2
          split <;> dsimp only <;> omega
        · show i + 1 ≤ _; omega

theorem runesAt_right (s t : ByteArray) : ∀ n j, t.size - j = n → runesAt (s ++ t) (s.size + j) = runesAt t j := by
  intro n
  induction n using Nat.strongRecOn with
  | ind n ih =>
    intro j hj
    by_cases h : j < t.size
    · rw [runesAt_step _ _ (by rw [ByteArray.size_append]; omega), runesAt_step _ _ h, decode_right]
      have hw := Lib.decode_width_pos t j h
      rw [Nat.add_assoc, ih (t.size - (j + (Utf8.decode t j).2)) (by omega) _ rfl]
    · rw [runesAt_end _ _ (by rw [ByteArray.size_append]; omega), runesAt_end _ _ h]

theorem runesAt_append (s t : ByteArray) (ht : t.size = 0 ∨ bt t 0 < 128) : ∀ n i, i ≤ s.size → s.size - i = n → runesAt (s ++ t) i = runesAt s i ++ runes t := by
  intro n
  induction n using Nat.strongRecOn with
  | ind n ih =>
    intro i hi hn
    by_cases h : i < s.size
    · rw [runesAt_step _ _ (by rw [ByteArray.size_append]; omega), runesAt_step _ _ h, decode_left s t ht i h]
      have hw := Lib.decode_width_pos s i h
      have hle := decode_width_le s i h
      rw [ih (s.size - (i + (Utf8.decode s i).2)) (by omega) _ hle rfl]
      rfl
    · obtain rfl : i = s.size := by omega
      rw [runesAt_end s _ h, List.nil_append]
      have := runesAt_right s t _ 0 rfl
      rw [Nat.add_zero] at this
      exact this

/-- Runes of two strings in a row, the second of which begins with a byte of ASCII (or is empty). -/
theorem runes_append (s t : ByteArray) (ht : t.size = 0 ∨ bt t 0 < 128) : runes (s ++ t) = runes s ++ runes t := runesAt_append s t ht _ 0 (Nat.zero_le _) rfl

end Go.Proofs.YtjbchkgkapccnaaGreatDoor

namespace Go.Proofs.YtjbchkgkapccnaaGreatDoor
open Go.RowKit
set_option linter.unusedVariables false

def ba (l : List UInt8) : ByteArray := ⟨l.toArray⟩
theorem ba_list (l : List UInt8) : (ba l).data.toList = l := rfl
theorem ba_of (s : ByteArray) : ba s.data.toList = s := rfl
theorem ba_size (l : List UInt8) : (ba l).size = l.length := by rw [Lib.size_eq]; rfl
theorem ba_ext {s t : ByteArray} (h : s.data.toList = t.data.toList) : s = t := by
  rw [← ba_of s, ← ba_of t, h]
theorem ext_ba (s : ByteArray) (a b : Nat) : s.extract a b = ba ((s.data.toList.take b).drop a) := by
  apply ba_ext
  rw [ba_list, Lib.extract_data, List.drop_take]

/-- One step of the decoding, by its bytes. -/
theorem dstep (s : ByteArray) (pos : Nat) (h : pos < s.size) :
    (bt s pos < 128 ∧ Utf8.decode s pos = (bt s pos, 1)) ∨ (128 ≤ (Utf8.decode s pos).1 ∧ ∀ k, pos ≤ k → k < pos + (Utf8.decode s pos).2 → 128 ≤ bt s k) := by
  have hc : ∀ k, cont s k = true → 128 ≤ bt s k := by
    intro k hk
    unfold cont at hk
    simp only [Bool.and_eq_true, decide_eq_true_eq, beq_iff_eq] at hk
    have := hk.2
    omega
  rw [decode_eq]
  by_cases h1 : bt s pos < 128
  · left
    rw [if_pos h1]
    exact ⟨h1, rfl⟩
  · right
    rw [if_neg h1]
    have h0 : 128 ≤ bt s pos := by omega
    have one : ∀ k, pos ≤ k → k < pos + 1 → 128 ≤ bt s k := by
      intro k a b
      obtain rfl : k = pos := by omega
      exact h0
    split
    · rename_i h2
      simp only [Bool.and_eq_true] at h2
      have c1 := hc _ h2.2
      split
      · rename_i h3
        refine ⟨h3, fun k a b => ?_⟩
        obtain rfl | rfl : k = pos ∨ k = pos + 1 := by dsimp only at b; omega
        · exact h0
        · exact c1
      · exact ⟨by decide, one⟩
    · split
      · rename_i h2
        simp only [Bool.and_eq_true] at h2
        have c1 := hc _ h2.1.2
        have c2 := hc _ h2.2
        split
        · rename_i h3
          simp only [Bool.and_eq_true, decide_eq_true_eq] at h3
          refine ⟨by have := h3.1; dsimp only; omega, fun k a b => ?_⟩
          obtain rfl | rfl | rfl : k = pos ∨ k = pos + 1 ∨ k = pos + 2 := by dsimp only at b; omega
          · exact h0
          · exact c1
          · exact c2
        · exact ⟨by decide, one⟩
      · split
        · rename_i h2
          simp only [Bool.and_eq_true] at h2
          have c1 := hc _ h2.1.1.2
          have c2 := hc _ h2.1.2
          have c3 := hc _ h2.2
          split
          · rename_i h3
            simp only [Bool.and_eq_true, decide_eq_true_eq] at h3
            refine ⟨by have := h3.1; dsimp only; omega, fun k a b => ?_⟩
            obtain rfl | rfl | rfl | rfl : k = pos ∨ k = pos + 1 ∨ k = pos + 2 ∨ k = pos + 3 := by dsimp only at b; omega
            · exact h0
            · exact c1
            · exact c2
            · exact c3
          · exact ⟨by decide, one⟩
        · exact ⟨by decide, one⟩

theorem bt_getElem (s : ByteArray) (k : Nat) (b : UInt8) (h : s.data.toList[k]? = some b) : bt s k = b.toNat := by
  unfold bt
  rw [get_getD]
  simp [List.getD, h]

/-- The bytes of one rune. -/
def cut (s : ByteArray) (pos d : Nat) : List UInt8 := (s.data.toList.drop pos).take d
theorem cut_drop (s : ByteArray) (pos d : Nat) : s.data.toList.drop pos = cut s pos d ++ s.data.toList.drop (pos + d) := by
  unfold cut
  rw [← List.drop_drop, List.take_append_drop]
theorem cut_take (s : ByteArray) (pos d : Nat) : s.data.toList.take (pos + d) = s.data.toList.take pos ++ cut s pos d := by
  unfold cut
  rw [List.take_add]
theorem cut_one (s : ByteArray) (pos : Nat) (h : pos < s.size) (ha : bt s pos < 128) : ∃ b : UInt8, cut s pos 1 = [b] ∧ b.toNat = bt s pos := by
  have hl : pos < s.data.toList.length := by rw [← Lib.size_eq]; exact h
  refine ⟨s.data.toList[pos], ?_, ?_⟩
  · unfold cut
    rw [List.drop_eq_getElem_cons hl]
    rfl
  · rw [bt_getElem s pos _ (List.getElem?_eq_getElem hl)]
theorem cut_high (s : ByteArray) (pos d : Nat) (hk : ∀ k, pos ≤ k → k < pos + d → 128 ≤ bt s k) : ∀ b ∈ cut s pos d, 128 ≤ b.toNat := by
  intro b hb
  unfold cut at hb
  obtain ⟨i, hi, he⟩ := List.getElem_of_mem hb
  have hi' := hi
  rw [List.length_take] at hi
  rw [List.getElem_take, List.getElem_drop] at he
  have hp : s.data.toList[pos + i]? = some b := by rw [← he]; exact List.getElem?_eq_getElem _
  rw [← bt_getElem s (pos + i) b hp]
  exact hk _ (by omega) (by omega)
/-- A rune's bytes: its own one, or none of ASCII. -/
theorem cut_rune (s : ByteArray) (pos : Nat) (h : pos < s.size) :
    (∃ b : UInt8, b.toNat < 128 ∧ (Utf8.decode s pos) = (b.toNat, 1) ∧ cut s pos (Utf8.decode s pos).2 = [b]) ∨
    (128 ≤ (Utf8.decode s pos).1 ∧ (∀ b ∈ cut s pos (Utf8.decode s pos).2, 128 ≤ b.toNat) ∧ cut s pos (Utf8.decode s pos).2 ≠ []) := by
  rcases dstep s pos h with ⟨h1, h2⟩ | ⟨h1, h2⟩
  · obtain ⟨b, hb, hn⟩ := cut_one s pos h h1
    exact .inl ⟨b, by omega, by rw [h2, hn], by rw [h2]; exact hb⟩
  · refine .inr ⟨h1, cut_high s pos _ h2, ?_⟩
    have hw := Lib.decode_width_pos s pos h
    have hl : pos < s.data.toList.length := by rw [← Lib.size_eq]; exact h
    unfold cut
    intro he
    have := congrArg List.length he
    rw [List.length_take, List.length_drop, List.length_nil] at this
    omega

/-! ### words -/
def blankU (b : UInt8) : Bool := b == 32 || b == 9
def badR (r : Int) : Bool := r == 65533 || (decide (r < 32) && !(r == 9))
def spl : List UInt8 → List UInt8 → List (List UInt8)
  | cur, [] => bif cur.isEmpty then [] else [cur]
  | cur, b :: l => bif blankU b then (bif cur.isEmpty then spl [] l else cur :: spl [] l) else spl (cur ++ [b]) l
theorem spl_run : ∀ (l cur rest : List UInt8), (∀ b ∈ l, blankU b = false) → spl cur (l ++ rest) = spl (cur ++ l) rest
  | [], cur, rest, _ => by rw [List.nil_append, List.append_nil]
  | b :: l, cur, rest, h => by
    rw [List.cons_append, spl, h b (by simp), cond_false, spl_run l (cur ++ [b]) rest (fun c hc => h c (by simp [hc]))]
    simp
/-- What names.Words tells. -/
def wordsB (s : ByteArray) : List ByteArray × Int :=
  if 400 < s.size then ([], 3) else bif (runes s).any badR then ([], 10) else ((spl [] s.data.toList).map ba, 0)
/-- Where the loop stands. -/
def wAt (s : ByteArray) (pos : Nat) (from_ : Int) (acc : List ByteArray) : List ByteArray × Int :=
  bif (runesAt s pos).any badR then ([], 10) else (acc ++ (spl (if from_ < 0 then [] else (s.data.toList.take pos).drop from_.toNat) (s.data.toList.drop pos)).map ba, 0)
theorem wAt_start (s : ByteArray) (h : ¬ 400 < s.size) : wordsB s = wAt s 0 (-1) [] := by
  unfold wordsB wAt
  rw [if_neg h, if_pos (by omega), List.nil_append, List.drop_zero]
  rfl
theorem wAt_bad (s : ByteArray) (pos : Nat) (from_ : Int) (acc : List ByteArray) (h : pos < s.size) (hb : badR ((Utf8.decode s pos).1 : Int) = true) : wAt s pos from_ acc = ([], 10) := by
  unfold wAt
  rw [runesAt_step s pos h, List.any_cons, hb, Bool.true_or, cond_true]
theorem wAt_any (s : ByteArray) (pos : Nat) (h : pos < s.size) (hb : badR ((Utf8.decode s pos).1 : Int) = false) : (runesAt s pos).any badR = (runesAt s (pos + (Utf8.decode s pos).2)).any badR := by
  rw [runesAt_step s pos h, List.any_cons, hb, Bool.false_or]
theorem isBlank {b : UInt8} (h : (b.toNat : Int) = 32 ∨ (b.toNat : Int) = 9) : blankU b = true := by
  unfold blankU
  have : b = 32 ∨ b = 9 := by
    rcases h with h | h
    · exact .inl (UInt8.toNat_inj.1 (by show b.toNat = 32; omega))
    · exact .inr (UInt8.toNat_inj.1 (by show b.toNat = 9; omega))
  rcases this with rfl | rfl <;> rfl
theorem noBlank {b : UInt8} (h : b.toNat ≠ 32) (k : b.toNat ≠ 9) : blankU b = false := by
  unfold blankU
  rw [Bool.or_eq_false_iff, beq_eq_false_iff_ne, beq_eq_false_iff_ne]
  exact ⟨fun e => h (by rw [e]; rfl), fun e => k (by rw [e]; rfl)⟩
theorem wAt_blank_out (s : ByteArray) (pos : Nat) (from_ : Int) (acc : List ByteArray) (h : pos < s.size) (hb : badR ((Utf8.decode s pos).1 : Int) = false)
    (hr : ((Utf8.decode s pos).1 : Int) = 32 ∨ ((Utf8.decode s pos).1 : Int) = 9) (hf : from_ < 0) : wAt s pos from_ acc = wAt s (pos + (Utf8.decode s pos).2) (-1) acc := by
  unfold wAt
  rw [wAt_any s pos h hb]
  rcases cut_rune s pos h with ⟨b, h1, h2, h3⟩ | ⟨h1, _⟩
  · rw [h2] at hr
    rw [cut_drop s pos (Utf8.decode s pos).2, h3, if_pos hf, if_pos (by omega), List.singleton_append, spl, isBlank hr, cond_true, List.isEmpty_nil, cond_true]
  · omega
theorem wAt_blank_in (s : ByteArray) (pos : Nat) (from_ : Int) (acc : List ByteArray) (h : pos < s.size) (hb : badR ((Utf8.decode s pos).1 : Int) = false)
    (hr : ((Utf8.decode s pos).1 : Int) = 32 ∨ ((Utf8.decode s pos).1 : Int) = 9) (hf : ¬ from_ < 0) (hp : from_.toNat < pos) :
    wAt s pos from_ acc = wAt s (pos + (Utf8.decode s pos).2) (-1) (acc ++ [s.extract from_.toNat pos]) := by
  unfold wAt
  rw [wAt_any s pos h hb]
  rcases cut_rune s pos h with ⟨b, h1, h2, h3⟩ | ⟨h1, _⟩
  · rw [h2] at hr
    have hne : ((s.data.toList.take pos).drop from_.toNat).isEmpty = false := by
      rw [List.isEmpty_eq_false_iff]
      intro he
      have := congrArg List.length he
      rw [List.length_drop, List.length_take, ← Lib.size_eq, List.length_nil] at this
      omega
    rw [cut_drop s pos (Utf8.decode s pos).2, h3, if_neg hf, if_pos (by omega), List.singleton_append, spl, isBlank hr, cond_true, hne, cond_false, List.map_cons, ext_ba]
    simp
  · omega
theorem wAt_first (s : ByteArray) (pos : Nat) (from_ : Int) (acc : List ByteArray) (h : pos < s.size) (hb : badR ((Utf8.decode s pos).1 : Int) = false)
    (hr : ((Utf8.decode s pos).1 : Int) ≠ 32) (hr2 : ((Utf8.decode s pos).1 : Int) ≠ 9) (hf : from_ < 0) : wAt s pos from_ acc = wAt s (pos + (Utf8.decode s pos).2) (pos : Int) acc := by
  have hcut : ∀ b ∈ cut s pos (Utf8.decode s pos).2, blankU b = false := by
    rcases cut_rune s pos h with ⟨b, h1, h2, h3⟩ | ⟨h1, h2, _⟩
    · intro c hc
      rw [h3, List.mem_singleton] at hc
      subst hc
      rw [h2] at hr hr2
      exact noBlank (by dsimp only at hr; omega) (by dsimp only at hr2; omega)
    · intro c hc
      have := h2 c hc
      exact noBlank (by omega) (by omega)
  unfold wAt
  have e1 : List.drop pos (List.take pos s.data.toList) = [] := List.drop_eq_nil_of_le (by rw [List.length_take]; omega)
  rw [wAt_any s pos h hb, if_pos hf, if_neg (by omega), Int.toNat_natCast, cut_take, List.drop_append_of_le_length (by rw [List.length_take, ← Lib.size_eq]; omega), e1, List.nil_append]
  conv => lhs; rw [cut_drop s pos (Utf8.decode s pos).2]
  rw [spl_run _ [] _ hcut, List.nil_append]
theorem wAt_more (s : ByteArray) (pos : Nat) (from_ : Int) (acc : List ByteArray) (h : pos < s.size) (hb : badR ((Utf8.decode s pos).1 : Int) = false)
    (hr : ((Utf8.decode s pos).1 : Int) ≠ 32) (hr2 : ((Utf8.decode s pos).1 : Int) ≠ 9) (hf : ¬ from_ < 0) (hp : from_.toNat ≤ pos) : wAt s pos from_ acc = wAt s (pos + (Utf8.decode s pos).2) from_ acc := by
  have hcut : ∀ b ∈ cut s pos (Utf8.decode s pos).2, blankU b = false := by
    rcases cut_rune s pos h with ⟨b, h1, h2, h3⟩ | ⟨h1, h2, _⟩
    · intro c hc
      rw [h3, List.mem_singleton] at hc
      subst hc
      rw [h2] at hr hr2
      exact noBlank (by dsimp only at hr; omega) (by dsimp only at hr2; omega)
    · intro c hc
      have := h2 c hc
      exact noBlank (by omega) (by omega)
  unfold wAt
  rw [wAt_any s pos h hb, if_neg hf, if_neg hf, cut_take, List.drop_append_of_le_length (by rw [List.length_take, ← Lib.size_eq]; omega)]
  conv => lhs; rw [cut_drop s pos (Utf8.decode s pos).2]
  rw [spl_run _ _ _ hcut]
theorem wAt_end_out (s : ByteArray) (pos : Nat) (from_ : Int) (acc : List ByteArray) (h : s.size ≤ pos) (hf : from_ < 0) : wAt s pos from_ acc = (acc, 0) := by
  unfold wAt
  rw [runesAt_end s pos (by omega), List.any_nil, cond_false, if_pos hf, List.drop_eq_nil_of_le (by rw [← Lib.size_eq]; omega)]
  simp [spl]
theorem wAt_end_in (s : ByteArray) (pos : Nat) (from_ : Int) (acc : List ByteArray) (h : s.size ≤ pos) (hf : ¬ from_ < 0) (hp : from_.toNat < s.size) : wAt s pos from_ acc = (acc ++ [s.extract from_.toNat s.size], 0) := by
  unfold wAt
  have hl := Lib.size_eq s
  have hne : ((s.data.toList).drop from_.toNat).isEmpty = false := by
    rw [List.isEmpty_eq_false_iff]
    intro he
    have := congrArg List.length he
    rw [List.length_drop, ← Lib.size_eq, List.length_nil] at this
    omega
  have e1 : s.data.toList.drop pos = [] := List.drop_eq_nil_of_le (by omega)
  have e2 : s.data.toList.take pos = s.data.toList := List.take_of_length_le (by omega)
  have e3 : s.data.toList.take s.size = s.data.toList := List.take_of_length_le (by omega)
  rw [runesAt_end s pos (by omega), List.any_nil, cond_false, if_neg hf, e1, e2, spl, hne, cond_false, ext_ba, e3]
  rfl

/-! ### parts -/
def aheadL (s : ByteArray) : List UInt8 := s.data.toList.takeWhile (fun b => !(b == 58))
def hasColon (s : ByteArray) : Bool := s.data.toList.any (fun b => b == 58)
def behindL (s : ByteArray) : List UInt8 := (s.data.toList.dropWhile (fun b => !(b == 58))).tail
def noColon (s : ByteArray) (pos : Nat) : Prop := ∀ b ∈ s.data.toList.take pos, b ≠ 58
theorem noColon_zero (s : ByteArray) : noColon s 0 := by intro b hb; simp at hb
theorem noColon_step (s : ByteArray) (pos : Nat) (h : pos < s.size) (hr : ((Utf8.decode s pos).1 : Int) ≠ 58) (hn : noColon s pos) : noColon s (pos + (Utf8.decode s pos).2) := by
  intro b hb
  rw [cut_take, List.mem_append] at hb
  rcases hb with hb | hb
  · exact hn b hb
  · rcases cut_rune s pos h with ⟨c, h1, h2, h3⟩ | ⟨h1, h2, _⟩
    · rw [h3, List.mem_singleton] at hb
      subst hb
      rw [h2] at hr
      rintro rfl
      exact hr rfl
    · have := h2 b hb
      rintro rfl
      exact absurd this (by decide)
theorem colon_at (s : ByteArray) (pos : Nat) (h : pos < s.size) (hr : ((Utf8.decode s pos).1 : Int) = 58) (hn : noColon s pos) :
    hasColon s = true ∧ s.extract 0 pos = ba (aheadL s) ∧ s.extract (pos + 1) s.size = ba (behindL s) := by
  rcases cut_rune s pos h with ⟨b, h1, h2, h3⟩ | ⟨h1, _⟩
  · rw [h2] at hr
    obtain rfl : b = 58 := UInt8.toNat_inj.1 (by show b.toNat = 58; dsimp only at hr; omega)
    have hs : s.data.toList = s.data.toList.take pos ++ (58 :: s.data.toList.drop (pos + 1)) := by
      conv => lhs; rw [← List.take_append_drop pos s.data.toList, cut_drop s pos (Utf8.decode s pos).2, h3]
      rw [h2]; rfl
    have hp : ∀ b ∈ s.data.toList.take pos, (!(b == 58)) = true := by
      intro c hc
      have := hn c hc
      simpa using this
    refine ⟨?_, ?_, ?_⟩
    · unfold hasColon
      rw [hs]
      simp
    · rw [ext_ba, List.drop_zero]
      unfold aheadL
      conv => rhs; rw [hs, List.takeWhile_append_of_pos hp]
      simp
    · rw [ext_ba, List.take_of_length_le (by rw [← Lib.size_eq]; omega)]
      unfold behindL
      conv => rhs; rw [hs, List.dropWhile_append_of_pos hp]
      simp
  · omega
theorem colon_none (s : ByteArray) (pos : Nat) (h : s.size ≤ pos) (hn : noColon s pos) : hasColon s = false ∧ s = ba (aheadL s) := by
  have hp : ∀ b ∈ s.data.toList, (!(b == 58)) = true := by
    intro c hc
    have := hn c (by rw [List.take_of_length_le (by rw [← Lib.size_eq]; omega)]; exact hc)
    simpa using this
  constructor
  · unfold hasColon
    rw [List.any_eq_false]
    intro b hb
    simpa using hp b hb
  · apply ba_ext
    rw [ba_list]
    unfold aheadL
    have := List.takeWhile_append_of_pos (l₂ := []) hp
    rw [List.append_nil] at this
    rw [this]; simp

/-! ### numbers -/
def digU (b : UInt8) : Bool := decide (48 ≤ b.toNat) && decide (b.toNat ≤ 57)
def valU (l : List UInt8) : Nat := l.foldl (fun n b => n * 10 + (b.toNat - 48)) 0
/-- What script.number tells. -/
def numB (s : ByteArray) (most : Nat) : Int × Bool :=
  if s.data.toList.all digU = true ∧ 0 < s.size ∧ s.size ≤ most then ((valU s.data.toList : Int), true) else (0, false)
def allDig (s : ByteArray) (pos : Nat) : Prop := ∀ b ∈ s.data.toList.take pos, digU b = true
theorem allDig_zero (s : ByteArray) : allDig s 0 := by intro b hb; simp at hb
theorem allDig_step (s : ByteArray) (pos : Nat) (h : pos < s.size) (h1 : ¬ ((Utf8.decode s pos).1 : Int) < 48) (h2 : ¬ 57 < ((Utf8.decode s pos).1 : Int)) (hn : allDig s pos) : allDig s (pos + (Utf8.decode s pos).2) := by
  intro b hb
  rw [cut_take, List.mem_append] at hb
  rcases hb with hb | hb
  · exact hn b hb
  · rcases cut_rune s pos h with ⟨c, k1, k2, k3⟩ | ⟨k1, _⟩
    · rw [k3, List.mem_singleton] at hb
      subst hb
      rw [k2] at h1 h2
      unfold digU
      rw [Bool.and_eq_true, decide_eq_true_eq, decide_eq_true_eq]
      dsimp only at h1 h2
      omega
    · omega
theorem num_bad (s : ByteArray) (most pos : Nat) (h : pos < s.size) (hb : ((Utf8.decode s pos).1 : Int) < 48 ∨ 57 < ((Utf8.decode s pos).1 : Int)) : numB s most = (0, false) := by
  unfold numB
  rw [if_neg]
  rintro ⟨ha, _⟩
  rw [List.all_eq_true] at ha
  have hmem : ∀ b ∈ cut s pos (Utf8.decode s pos).2, digU b = true := fun b hb => ha b (List.mem_of_mem_drop (List.mem_of_mem_take hb))
  rcases cut_rune s pos h with ⟨c, k1, k2, k3⟩ | ⟨k1, k2, k3⟩
  · have := hmem c (by rw [k3]; simp)
    unfold digU at this
    rw [Bool.and_eq_true, decide_eq_true_eq, decide_eq_true_eq] at this
    rw [k2] at hb
    dsimp only at hb
    omega
  · obtain ⟨c, hc⟩ := List.exists_mem_of_ne_nil _ k3
    have := hmem c hc
    have := k2 c hc
    unfold digU at *
    rw [Bool.and_eq_true, decide_eq_true_eq, decide_eq_true_eq] at *
    omega
theorem allDig_all (s : ByteArray) (pos : Nat) (h : s.size ≤ pos) (hn : allDig s pos) : s.data.toList.all digU = true := by
  rw [List.all_eq_true]
  intro b hb
  exact hn b (by rw [List.take_of_length_le (by rw [← Lib.size_eq]; omega)]; exact hb)
theorem num_long (s : ByteArray) (most : Nat) (h : s.size = 0 ∨ most < s.size) : numB s most = (0, false) := by
  unfold numB
  rw [if_neg (by omega)]
theorem num_good (s : ByteArray) (most : Nat) (ha : s.data.toList.all digU = true) (h0 : 0 < s.size) (h1 : s.size ≤ most) : numB s most = ((valU s.data.toList : Int), true) := by
  unfold numB
  rw [if_pos ⟨ha, h0, h1⟩]
theorem decFrom_dig : ∀ (l : List UInt8) (n : Nat), l.all digU = true → Lib.decFrom n l = some (l.foldl (fun n b => n * 10 + (b.toNat - 48)) n)
  | [], n, _ => rfl
  | b :: l, n, h => by
    rw [List.all_cons, Bool.and_eq_true] at h
    have hd : Lib.digitVal b = some (b.toNat - 48) := by
      have := h.1
      unfold digU at this
      rw [Bool.and_eq_true, decide_eq_true_eq, decide_eq_true_eq] at this
      unfold Lib.digitVal
      rw [if_pos this]
    rw [Lib.decFrom, hd]
    exact decFrom_dig l _ h.2
/-- strconv.Atoi at digits. -/
theorem atoi_dig (l : List UInt8) (h : l.all digU = true) (hne : l ≠ []) : Lib.atoi l = some (valU l : Int) := by
  cases l with
  | nil => exact absurd rfl hne
  | cons b r =>
    have hb := h
    rw [List.all_cons, Bool.and_eq_true] at hb
    have hd := hb.1
    unfold digU at hd
    rw [Bool.and_eq_true, decide_eq_true_eq, decide_eq_true_eq] at hd
    have h1 : (b == 45) = false := by rw [beq_eq_false_iff_ne]; rintro rfl; exact absurd hd.1 (by decide)
    have h2 : (b == 43) = false := by rw [beq_eq_false_iff_ne]; rintro rfl; exact absurd hd.1 (by decide)
    rw [Lib.atoi, h1, h2]
    simp only [Bool.false_eq_true, if_false]
    have e : Lib.decNat (b :: r) = some (valU (b :: r)) := decFrom_dig (b :: r) 0 h
    rw [e]
    rfl
theorem valU_two (l : List UInt8) (h : l.all digU = true) (hl : l.length ≤ 2) : valU l ≤ 99 := by
  have hd : ∀ b ∈ l, b.toNat - 48 ≤ 9 := by
    intro b hb
    have := List.all_eq_true.1 h b hb
    unfold digU at this
    rw [Bool.and_eq_true, decide_eq_true_eq, decide_eq_true_eq] at this
    omega
  match l, hl with
  | [], _ => simp [valU]
  | [a], _ => have := hd a (by simp); simp [valU]; omega
  | [a, b], _ => have := hd a (by simp); have := hd b (by simp); simp [valU]; omega

/-! ### lines -/
def nlB : ByteArray := ⟨#[10]⟩
/-- A text's lines: strings.Split at a line's end. -/
def linesB (s : ByteArray) : List ByteArray := Lib.splitB nlB 0 (Lib.countB s nlB) s
theorem index_nl_none : ∀ l : List UInt8, (∀ b ∈ l, b ≠ 10) → Lib.index l [10] = -1
  | [], _ => rfl
  | b :: l, h => by
    have hb : ([10] : List UInt8).isPrefixOf (b :: l) = false := by
      have := h b (by simp)
      simp [List.isPrefixOf, Ne.symm this]
    rw [Lib.index, hb, index_nl_none l (fun c hc => h c (by simp [hc]))]
    rfl
theorem index_nl_at : ∀ (l r : List UInt8), (∀ b ∈ l, b ≠ 10) → Lib.index (l ++ 10 :: r) [10] = (l.length : Int)
  | [], r, _ => by rw [List.nil_append, Lib.index]; simp [List.isPrefixOf]
  | b :: l, r, h => by
    have hb : ([10] : List UInt8).isPrefixOf (b :: (l ++ 10 :: r)) = false := by
      have := h b (by simp)
      simp [List.isPrefixOf, Ne.symm this]
    have ih := index_nl_at l r (fun c hc => h c (by simp [hc]))
    rw [List.cons_append, Lib.index, hb, ih]
    have : ((l.length : Int) == -1) = false := by rw [beq_eq_false_iff_ne]; omega
    rw [this]
    simp
theorem lines_one (s : ByteArray) (h : ∀ b ∈ s.data.toList, b ≠ 10) : linesB s = [s] :=
  Lib.splitB_miss _ _ _ _ (index_nl_none _ h)
theorem lines_cons (a s : ByteArray) (h : ∀ b ∈ a.data.toList, b ≠ 10) : linesB (a ++ nlB ++ s) = a :: linesB s := by
  have hd : (a ++ nlB ++ s).data.toList = a.data.toList ++ 10 :: s.data.toList := by
    rw [ByteArray.data_append, ByteArray.data_append, Array.toList_append, Array.toList_append]
    simp [nlB]
  have hi : Lib.indexB (a ++ nlB ++ s) nlB = (a.size : Int) := by
    show Lib.index (a ++ nlB ++ s).data.toList nlB.data.toList = _
    rw [hd, Lib.size_eq]
    exact index_nl_at _ _ h
  have e1 : (a ++ nlB ++ s).extract (a.size + nlB.size) (a ++ nlB ++ s).size = s := by
    apply ba_ext
    have h1 : (a ++ nlB ++ s).data.toList.take (a ++ nlB ++ s).size = (a ++ nlB ++ s).data.toList := List.take_of_length_le (by rw [Lib.size_eq]; exact Nat.le_refl _)
    have h2 : a.size + nlB.size = (a.data.toList ++ [10]).length := by rw [List.length_append, ← Lib.size_eq]; rfl
    rw [ext_ba, ba_list, h1, hd, h2, show a.data.toList ++ 10 :: s.data.toList = (a.data.toList ++ [10]) ++ s.data.toList by simp, List.drop_left]
  have e2 : (a ++ nlB ++ s).extract 0 (a.size + 0) = a := by
    apply ba_ext
    rw [ext_ba, ba_list, hd, List.drop_zero, Nat.add_zero, Lib.size_eq, List.take_left]
  unfold linesB
  rw [Lib.countB_hit _ _ a.size (by decide) hi, e1, Nat.add_comm 1, Lib.splitB_hit _ _ _ _ a.size hi, e1, e2]
end Go.Proofs.YtjbchkgkapccnaaGreatDoor

namespace Go.Proofs.YtjbchkgkapccnaaGreatDoor
open Go.RowKit
set_option linter.unusedVariables false

theorem alloc_old (w : World) (o : Obj) (k : Nat) (h : k < w.heap.size) : (w.alloc o).heap[k]? = w.heap[k]? := Below.heap_alloc w o k h

/-- Of the blocks that are there only those of S may have turned. -/
structure Fr (S : Nat → Prop) (w w' : World) : Prop where
  os : w'.os = w.os
  tape : w'.tape = w.tape
  output : w'.output = w.output
  size : w.heap.size ≤ w'.heap.size
  block : ∀ k, k < w.heap.size → ¬ S k → w'.heap[k]? = w.heap[k]?

namespace Fr
variable {S : Nat → Prop} {a b c w : World}
theorem refl (S : Nat → Prop) (w : World) : Fr S w w := ⟨rfl, rfl, rfl, Nat.le_refl _, fun _ _ _ => rfl⟩
theorem trans (h : Fr S a b) (k : Fr S b c) : Fr S a c :=
  ⟨k.os.trans h.os, k.tape.trans h.tape, k.output.trans h.output, Nat.le_trans h.size k.size, fun i hi hs => (k.block i (Nat.lt_of_lt_of_le hi h.size) hs).trans (h.block i hi hs)⟩
theorem mono {T : Nat → Prop} (h : Fr S a b) (hST : ∀ k, k < a.heap.size → S k → T k) : Fr T a b :=
  ⟨h.os, h.tape, h.output, h.size, fun k hk hs => h.block k hk (fun hS => hs (hST k hk hS))⟩
/-- As 'trans', where the second step's set is another one. -/
theorem step {T U : Nat → Prop} (h : Fr S a b) (k : Fr T b c) (h1 : ∀ i, i < a.heap.size → S i → U i) (h2 : ∀ i, i < a.heap.size → T i → U i) : Fr U a c :=
  ⟨k.os.trans h.os, k.tape.trans h.tape, k.output.trans h.output, Nat.le_trans h.size k.size,
    fun i hi hs => (k.block i (Nat.lt_of_lt_of_le hi h.size) (fun hT => hs (h2 i hi hT))).trans (h.block i hi (fun hS => hs (h1 i hi hS)))⟩
theorem drew (h : Fr S a w) : Fr S a w.drew := ⟨h.os, h.tape, h.output, h.size, h.block⟩
theorem drewN (h : Fr S a w) (n : Nat) : Fr S a (w.drewN n) := ⟨h.os, h.tape, h.output, h.size, h.block⟩
theorem alloc (h : Fr S a w) (o : Obj) : Fr S a (w.alloc o) :=
  h.trans ⟨rfl, rfl, rfl, by simp, fun k hk _ => alloc_old w o k hk⟩
theorem setCell (h : Fr S a w) {p : Addr} (hp : S p.block ∨ a.heap.size ≤ p.block) (u : Value) : Fr S a (w.setCell p u) :=
  ⟨h.os, h.tape, h.output, by simpa [World.setCell] using h.size, fun k hk hs =>
    (heap_setCell_other w p k u (fun e => by subst e; rcases hp with hp | hp; exact hs hp; omega)).trans (h.block k hk hs)⟩
theorem grown {row : Option Nat} (h : Fr S a w) (hg : w.grownBy b row) (hr : ∀ k, row = some k → S k ∨ a.heap.size ≤ k) : Fr S a b :=
  ⟨hg.os.trans h.os, hg.tape.trans h.tape, hg.output.trans h.output, Nat.le_trans h.size hg.size, fun k hk hs =>
    (hg.block k (Nat.lt_of_lt_of_le hk h.size) (fun e => by rcases hr k e.symm with h1 | h1; exact hs h1; omega)).trans (h.block k hk hs)⟩
theorem of_below {B : Nat} (h : Below B a b) : Fr (fun k => B ≤ k) a b :=
  ⟨h.os, h.tape, h.output, h.size, fun k _ hs => h.block k (by omega)⟩
/-- What turns no block that was there is a frame of whatever set. -/
theorem of_new (h : Below a.heap.size a b) : Fr S a b :=
  ⟨h.os, h.tape, h.output, h.size, fun k hk _ => h.block k hk⟩
theorem below {B : Nat} (h : Fr S a b) (hB : B ≤ a.heap.size) (hS : ∀ k, k < B → ¬ S k) : Below B a b :=
  ⟨h.os, h.tape, h.output, h.size, fun k hk => h.block k (by omega) (hS k hk)⟩
theorem iterAt (h : Fr S a w) {k : Nat} (hk : S k ∨ a.heap.size ≤ k) (s : ByteArray) (pos : Nat) : Fr S a (w.iterAt k s pos) :=
  ⟨h.os, h.tape, h.output, by rw [Lib.iterAt_size]; exact h.size, fun i hi hs =>
    (Lib.iterAt_other w k i s pos (fun e => by subst e; rcases hk with hk | hk; exact hs hk; omega)).trans (h.block i hi hs)⟩
theorem iter (h : Fr S a w) (s : ByteArray) (pos : Nat) : Fr S a (w.iter s pos) := h.alloc _
theorem heap_at (h : Fr S a b) {k : Nat} {o : Obj} (hk : a.heap[k]? = some o) (hs : ¬ S k) : b.heap[k]? = some o :=
  (h.block k (Array.getElem?_eq_some_iff.1 hk).1 hs).trans hk
end Fr

theorem heap_new_at (w : World) (o : Obj) {k : Nat} (hk : k = w.heap.size) : (w.alloc o).heap[k]? = some o := by subst hk; exact heap_alloc_new w _

/-- The block b holds these cells. -/
def Blk (w : World) (b : Nat) (t : TypeId) (cs : Array Value) : Prop := w.heap[b]? = some (.cells cs t (0, 0))

namespace Blk
variable {w w' : World} {b : Nat} {t : TypeId} {cs : Array Value}
theorem cell (h : Blk w b t cs) (j : Nat) : w.cell? ⟨b, j, none⟩ = cs[j]? := cell_of_row w b j cs t (0, 0) h
theorem free (h : Blk w b t cs) (j : Nat) : w.frozen? ⟨b, j, none⟩ = false := frozen_of_row w b j cs t h
theorem lt (h : Blk w b t cs) : b < w.heap.size := (Array.getElem?_eq_some_iff.1 h).1
theorem fr {S : Nat → Prop} (h : Blk w b t cs) (hf : Fr S w w') (hs : ¬ S b) : Blk w' b t cs := hf.heap_at h hs
theorem below {B : Nat} (h : Blk w b t cs) (hf : Below B w w') (hb : b < B) : Blk w' b t cs := (hf.block b hb).trans h
theorem set (h : Blk w b t cs) (j : Nat) (u : Value) : Blk (w.setCell ⟨b, j, none⟩ u) b t (cs.setIfInBounds j u) := heap_setCell_same w b j cs t u h
theorem other (h : Blk w b t cs) {p : Addr} (hp : b ≠ p.block) (u : Value) : Blk (w.setCell p u) b t cs := (heap_setCell_other w p b u hp).trans h
theorem alloc (h : Blk w b t cs) (o : Obj) : Blk (w.alloc o) b t cs := (alloc_old w o b h.lt).trans h
theorem drew (h : Blk w b t cs) : Blk w.drew b t cs := h
theorem new (w : World) (cs : Array Value) (t : TypeId) : Blk (w.alloc (.cells cs t)) w.heap.size t cs := heap_alloc_new w _
theorem new_at (w : World) (cs : Array Value) (t : TypeId) {k : Nat} (hk : k = w.heap.size) : Blk (w.alloc (.cells cs t)) k t cs := by subst hk; exact heap_alloc_new w _
theorem iterAt (h : Blk w b t cs) {k : Nat} (hk : b ≠ k) (s : ByteArray) (pos : Nat) : Blk (w.iterAt k s pos) b t cs := (Lib.iterAt_other w k b s pos hk).trans h
theorem grown {row : Option Nat} (h : Blk w b t cs) (hg : w.grownBy w' row) (hr : some b ≠ row) : Blk w' b t cs := (hg.block b h.lt hr).trans h
end Blk

/-- The slice v of n elements, of 'size' cells each, reads as these cells; it lies below B. -/
def Sl (w : World) (B size : Nat) (v : Value) (n : Nat) (cs : List Value) : Prop :=
  cs.length = n * size ∧ ∃ a cap, v = .slice a n cap ∧ n ≤ cap ∧ cap ≤ maxLen ∧ (n = 0 ∨ ∃ b off, a = some ⟨b, off, none⟩ ∧ b < B ∧ ∀ j, j < n * size → w.cell? ⟨b, off + j, none⟩ = cs[j]?)

namespace Sl
variable {w w' : World} {B size n : Nat} {v : Value} {cs : List Value}
theorem nil (w : World) (B size : Nat) : Sl w B size (.slice none 0 0) 0 [] := ⟨by simp, none, 0, rfl, Nat.le_refl _, by unfold maxLen; omega, .inl rfl⟩
theorem mono (h : Sl w B size v n cs) {C : Nat} (hC : B ≤ C) : Sl w C size v n cs := by
  obtain ⟨h1, a, cap, hv, h2, h3, h4⟩ := h
  refine ⟨h1, a, cap, hv, h2, h3, h4.imp id ?_⟩
  rintro ⟨b, off, ha, hb, hc⟩
  exact ⟨b, off, ha, by omega, hc⟩
theorem below (h : Sl w B size v n cs) (hb : Below B w w') : Sl w' B size v n cs := by
  obtain ⟨h1, a, cap, hv, h2, h3, h4⟩ := h
  refine ⟨h1, a, cap, hv, h2, h3, h4.imp id ?_⟩
  rintro ⟨b, off, ha, hlt, hc⟩
  exact ⟨b, off, ha, hlt, fun j hj => (hb.cell (p := ⟨b, off + j, none⟩) hlt).trans (hc j hj)⟩
theorem of_owns {base : Nat} {e : TypeId} (h : w.ownsRow base e size v n cs) : Sl w w.heap.size size v n cs := by
  obtain ⟨h1, h2⟩ := h
  refine ⟨h1, ?_⟩
  rcases h2 with ⟨rfl, rfl⟩ | ⟨g, cap, cur, rfl, hb, hg, hn, hc, hs, ht⟩
  · exact ⟨none, 0, rfl, Nat.le_refl _, by unfold maxLen; omega, .inl rfl⟩
  · refine ⟨_, cap, rfl, hn, hc, .inr ⟨g, 0, rfl, (Array.getElem?_eq_some_iff.1 hg).1, fun j hj => ?_⟩⟩
    rw [Nat.zero_add, cell_of_row w g j cur e (0, 0) hg, ← ht, List.getElem?_take, if_pos hj]
    simp
/-- An element of a row of numbers. -/
theorem int {K : IntKind} {zs : List Int} (h : Sl w B 1 v n (zs.map (Value.int K))) (k : Nat) (hk : k < n) :
    ∃ b off cap, v = .slice (some ⟨b, off, none⟩) n cap ∧ b < B ∧ ∃ hl : k < zs.length, w.cell? ⟨b, off + k, none⟩ = some (.int K (zs[k]'hl)) := by
  obtain ⟨h1, a, cap, hv, h2, h3, h4⟩ := h
  rw [List.length_map, Nat.mul_one] at h1
  rcases h4 with h4 | ⟨b, off, rfl, hb, hc⟩
  · omega
  · refine ⟨b, off, cap, hv, hb, by omega, ?_⟩
    rw [hc k (by omega)]
    simp [show k < zs.length by omega]
end Sl

theorem owns_succ {W : World} {base : Nat} {e : TypeId} {size : Nat} {v : Value} {k : Nat} {xs : List Value} (h : W.ownsRow base e size v (k + 1) xs) : ∃ g cap, v = .slice (some ⟨g, 0, none⟩) (k + 1) cap := by
  rcases h.2 with ⟨_, h0⟩ | ⟨g, cap, _, rfl, _⟩
  · omega
  · exact ⟨g, cap, rfl⟩

end Go.Proofs.YtjbchkgkapccnaaGreatDoor

namespace Go.Proofs.YtjbchkgkapccnaaGreatDoor
open Go.RowKit
set_option linter.unusedVariables false

/-- An expression. -/
inductive Ex where
  | mk (op n : Int) (args : List Ex)

namespace Ex
def op : Ex → Int | .mk o _ _ => o
def n : Ex → Int | .mk _ n _ => n
def args : Ex → List Ex | .mk _ _ l => l
end Ex

mutual
/-- How high an expression is. -/
def Ex.ht : Ex → Nat
  | .mk _ _ l => Exs.ht l + 1
def Exs.ht : List Ex → Nat
  | [] => 0
  | x :: l => max x.ht (Exs.ht l)
end

theorem Exs.ht_mem : ∀ (l : List Ex) (x : Ex), x ∈ l → x.ht ≤ Exs.ht l
  | y :: l, x, h => by
    simp only [Exs.ht]
    rcases List.mem_cons.1 h with rfl | h
    · exact Nat.le_max_left _ _
    · exact Nat.le_trans (Exs.ht_mem l x h) (Nat.le_max_right _ _)
theorem Ex.ht_args (x : Ex) : ∀ a ∈ x.args, a.ht < x.ht := by
  intro a ha
  obtain ⟨o, n, l⟩ := x
  have := Exs.ht_mem l a ha
  simp only [Ex.ht]
  omega

/-- The list of expressions l lies where the slice sv says, below block B. -/
inductive ArgsAt (w : World) (B : Nat) : List Ex → Value → Prop
  | nil (a : Option Addr) (cap : Nat) (hm : cap ≤ maxLen) : ArgsAt w B [] (.slice a 0 cap)
  | cons (l : List Ex) (b off cap : Nat) (sv : Nat → Value) (hl : 0 < l.length) (hb : b < B) (hcap : l.length ≤ cap) (hm : cap ≤ maxLen)
      (h0 : ∀ j (h : j < l.length), w.cell? ⟨b, off + j * 3, none⟩ = some (.int .u8 (l[j]'h).op)) (h1 : ∀ j (h : j < l.length), w.cell? ⟨b, off + j * 3 + 1, none⟩ = some (.int .i64 (l[j]'h).n))
      (h2 : ∀ j (h : j < l.length), w.cell? ⟨b, off + j * 3 + 2, none⟩ = some (sv j)) (hs : ∀ j (h : j < l.length), ArgsAt w B (l[j]'h).args (sv j)) :
      ArgsAt w B l (.slice (some ⟨b, off, none⟩) l.length cap)

namespace ArgsAt
variable {w w' : World} {B : Nat} {l : List Ex} {v : Value}
theorem mono (h : ArgsAt w B l v) {C : Nat} (hC : B ≤ C) : ArgsAt w C l v := by
  induction h with
  | nil a cap hm => exact .nil a cap hm
  | cons l b off cap sv hl hb hcap hm h0 h1 h2 _ ih => exact .cons l b off cap sv hl (by omega) hcap hm h0 h1 h2 ih
theorem keep (h : ArgsAt w B l v) (hB : Below B w w') : ArgsAt w' B l v := by
  induction h with
  | nil a cap hm => exact .nil a cap hm
  | cons l b off cap sv hl hb hcap hm h0 h1 h2 _ ih =>
    exact .cons l b off cap sv hl hb hcap hm (fun j h => (hB.cell (p := ⟨b, off + j * 3, none⟩) hb).trans (h0 j h)) (fun j h => (hB.cell (p := ⟨b, off + j * 3 + 1, none⟩) hb).trans (h1 j h))
      (fun j h => (hB.cell (p := ⟨b, off + j * 3 + 2, none⟩) hb).trans (h2 j h)) ih
theorem slice (h : ArgsAt w B l v) : ∃ a cap, v = .slice a l.length cap ∧ l.length ≤ cap ∧ cap ≤ maxLen := by
  cases h with
  | nil a cap hm => exact ⟨a, cap, rfl, Nat.zero_le _, hm⟩
  | cons l b off cap sv hl hb hcap hm h0 h1 h2 hs => exact ⟨_, cap, rfl, hcap, hm⟩
/-- An element. -/
theorem at_ (h : ArgsAt w B l v) (j : Nat) (hj : j < l.length) : ∃ b off cap sv, v = .slice (some ⟨b, off, none⟩) l.length cap ∧ b < B ∧ w.cell? ⟨b, off + j * 3, none⟩ = some (.int .u8 (l[j]'hj).op) ∧
    w.cell? ⟨b, off + j * 3 + 1, none⟩ = some (.int .i64 (l[j]'hj).n) ∧ w.cell? ⟨b, off + j * 3 + 2, none⟩ = some sv ∧ ArgsAt w B (l[j]'hj).args sv := by
  cases h with
  | nil a cap hm => simp at hj
  | cons l b off cap sv hl hb hcap hm h0 h1 h2 hs => exact ⟨b, off, cap, sv j, rfl, hb, h0 j hj, h1 j hj, h2 j hj, hs j hj⟩
end ArgsAt

/-- The value v is the expression x. -/
def ExAt (w : World) (B : Nat) (v : Value) (x : Ex) : Prop := ∃ sv, v = .agg #[.int .u8 x.op, .int .i64 x.n, sv] ∧ ArgsAt w B x.args sv
theorem ExAt.mono {w : World} {B C : Nat} {v : Value} {x : Ex} (h : ExAt w B v x) (hC : B ≤ C) : ExAt w C v x := let ⟨sv, h1, h2⟩ := h; ⟨sv, h1, h2.mono hC⟩
theorem ExAt.keep {w w' : World} {B : Nat} {v : Value} {x : Ex} (h : ExAt w B v x) (hB : Below B w w') : ExAt w' B v x := let ⟨sv, h1, h2⟩ := h; ⟨sv, h1, h2.keep hB⟩

mutual
/-- Numbers within their kinds. -/
def Ex.ok : Ex → Prop
  | .mk o n l => 0 ≤ o ∧ o ≤ 255 ∧ -9223372036854775808 ≤ n ∧ n ≤ 9223372036854775807 ∧ Exs.ok l
def Exs.ok : List Ex → Prop
  | [] => True
  | x :: l => x.ok ∧ Exs.ok l
end

end Go.Proofs.YtjbchkgkapccnaaGreatDoor

namespace Go.Proofs.YtjbchkgkapccnaaGreatDoor
open Go.RowKit
set_option linter.unusedVariables false

def signB (r : Int) : Bool := decide (r = 43 ∨ r = 45 ∨ r = 42 ∨ r = 47 ∨ r = 37 ∨ r = 40 ∨ r = 41 ∨ r = 38 ∨ r = 124 ∨ r = 33 ∨ r = 61 ∨ r = 60)

/-- What a rune begins. -/
def kindN (r : Int) : Int := if 48 ≤ r ∧ r ≤ 57 then 2 else if signB r then 3 else if nameB (Utf8.encode r) then 1 else 0

/-- What a row of digits comes to; none: it is too great. -/
def numGo : Int → List Int → Option Int
  | n, [] => some n
  | n, r :: rs => if n > (9223372036854775807 - (r - 48)) / 10 then none else numGo (10 * n + (r - 48)) rs

/-- Whether a token goes on with a rune. -/
def goesB (k : Int) (tx : ByteArray) (r : Int) : Bool :=
  if k = 3 then decide (r = 61) && (decide (tx.toList = [33]) || decide (tx.toList = [60])) else decide (k ≠ 0) && decide (kindN r = k)

/-- A token. -/
structure Tok where
  kind : Int
  text : ByteArray
  n : Int
  at_ : Int

def Tok.cells (t : Tok) : List Value := [.int .u8 t.kind, .string t.text, .int .i64 t.n, .int .i64 t.at_]
def Tok.agg (t : Tok) : Value := .agg #[.int .u8 t.kind, .string t.text, .int .i64 t.n, .int .i64 t.at_]
def Tok.zero : Tok := ⟨0, { data := #[] }, 0, 0⟩
def toksCells (l : List Tok) : List Value := l.flatMap Tok.cells
theorem toksCells_length (l : List Tok) : (toksCells l).length = l.length * 4 := by
  induction l with
  | nil => rfl
  | cons t l ih => simp only [toksCells, List.flatMap_cons, List.length_append, List.length_cons] at *; rw [ih]; simp [Tok.cells]; omega
theorem toksCells_snoc (l : List Tok) (t : Tok) : toksCells (l ++ [t]) = toksCells l ++ t.cells := by simp [toksCells]

/-- The end of a token: the row with it; none: a number that is too great. -/
def endTok (t : Tok) (out : List Tok) : Option (List Tok) :=
  if t.kind = 2 then match numGo 0 (runes t.text) with
    | none => none
    | some m => some (out ++ [⟨2, { data := #[] }, m, t.at_⟩])
  else if t.kind = 0 then some out else some (out ++ [t])

/-- What lex.Tokens tells: tokens, a place, an error. -/
def tokGo (t : Tok) (pos : Int) (out : List Tok) : List Int → List Tok × Int × Int
  | [] => match endTok t out with
    | none => ([], t.at_, 71)
    | some o => (o, 0, 0)
  | r :: rs =>
    if goesB t.kind t.text r then tokGo { t with text := t.text ++ Utf8.encode r } (pos + 1) out rs
    else match endTok t out with
      | none => ([], t.at_, 71)
      | some o =>
        if r = 32 ∨ r = 9 then tokGo Tok.zero (pos + 1) o rs
        else if kindN r = 0 then ([], pos + 1, 70)
        else tokGo ⟨kindN r, Utf8.encode r, 0, pos + 1⟩ (pos + 1) o rs

def toks (s : ByteArray) : List Tok × Int × Int := if 400 < s.size then ([], 0, 3) else tokGo Tok.zero (-1) [] (runes s)

end Go.Proofs.YtjbchkgkapccnaaGreatDoor

namespace Go.Proofs.YtjbchkgkapccnaaGreatDoor
open Go.RowKit
set_option linter.unusedVariables false

theorem toksCells_at (l : List Tok) (k : Nat) (h : k < l.length) : (toksCells l)[k * 4]? = some (.int .u8 (l[k]'h).kind) ∧ (toksCells l)[k * 4 + 1]? = some (.string (l[k]'h).text) ∧
    (toksCells l)[k * 4 + 2]? = some (.int .i64 (l[k]'h).n) ∧ (toksCells l)[k * 4 + 3]? = some (.int .i64 (l[k]'h).at_) := by
  induction l generalizing k with
  | nil => simp at h
  | cons t l ih =>
    cases k with
    | zero => simp [toksCells, Tok.cells]
    | succ k =>
      have hk : k < l.length := by simpa using h
      have e : toksCells (t :: l) = .int .u8 t.kind :: .string t.text :: .int .i64 t.n :: .int .i64 t.at_ :: toksCells l := rfl
      rw [e, show (k + 1) * 4 = k * 4 + 1 + 1 + 1 + 1 by omega]
      simp only [List.getElem?_cons_succ, List.getElem_cons_succ, Nat.add_right_comm _ 1]
      exact ih k hk

/-- The four cells of an element. -/
theorem Sl.tok {w : World} {B n : Nat} {v : Value} {l : List Tok} (h : Sl w B 4 v n (toksCells l)) (k : Nat) (hk : k < n) :
    ∃ b off cap, v = .slice (some ⟨b, off, none⟩) n cap ∧ ∃ hl : k < l.length, w.cell? ⟨b, off + k * 4, none⟩ = some (.int .u8 (l[k]'hl).kind) ∧ w.cell? ⟨b, off + k * 4 + 1, none⟩ = some (.string (l[k]'hl).text) ∧
      w.cell? ⟨b, off + k * 4 + 2, none⟩ = some (.int .i64 (l[k]'hl).n) ∧ w.cell? ⟨b, off + k * 4 + 3, none⟩ = some (.int .i64 (l[k]'hl).at_) := by
  obtain ⟨h1, a, cap, hv, h2, h3, h4⟩ := h
  rw [toksCells_length] at h1
  rcases h4 with h4 | ⟨b, off, rfl, hb, hc⟩
  · omega
  · have hl : k < l.length := by omega
    obtain ⟨e0, e1, e2, e3⟩ := toksCells_at l k hl
    refine ⟨b, off, cap, hv, hl, ?_, ?_, ?_, ?_⟩
    · rw [hc _ (by omega)]; exact e0
    · rw [Nat.add_assoc, hc _ (by omega)]; exact e1
    · rw [Nat.add_assoc, hc _ (by omega)]; exact e2
    · rw [Nat.add_assoc, hc _ (by omega)]; exact e3

/-- Without the first element. -/
theorem Sl.rest {w : World} {B : Nat} {t : Tok} {l : List Tok} {b off cap : Nat} (h : Sl w B 4 (.slice (some ⟨b, off, none⟩) (l.length + 1) cap) (l.length + 1) (toksCells (t :: l))) {A : Option Addr} (hA : 0 < l.length → A = some ⟨b, off + 4, none⟩) :
    Sl w B 4 (.slice A l.length (cap - 1)) l.length (toksCells l) := by
  obtain ⟨h1, a, cap', hv, h2, h3, h4⟩ := h
  simp only [Value.slice.injEq] at hv
  obtain ⟨rfl, _, rfl⟩ := hv
  refine ⟨toksCells_length l, _, _, rfl, by omega, by omega, ?_⟩
  by_cases h0 : l.length = 0
  · exact .inl h0
  · rcases h4 with h4 | ⟨b', off', e, hb, hc⟩
    · omega
    · simp only [Option.some.injEq, Addr.mk.injEq, and_true] at e
      obtain ⟨rfl, rfl⟩ := e
      refine .inr ⟨b, off + 4, hA (by omega), hb, fun j hj => ?_⟩
      have := hc (4 + j) (by omega)
      rw [← Nat.add_assoc] at this
      rw [this]
      show (t.cells ++ toksCells l)[4 + j]? = _
      rw [List.getElem?_append_right (by simp [Tok.cells]), show t.cells.length = 4 from rfl, Nat.add_sub_cancel_left]

end Go.Proofs.YtjbchkgkapccnaaGreatDoor

namespace Go.Proofs.YtjbchkgkapccnaaGreatDoor
open Go.RowKit
set_option linter.unusedVariables false

set_option maxHeartbeats 400000 in
theorem letter_c (r : Int) (w : World) :
    Calls Tryz.prog 126 #[.int .i32 r] w fun e w' => e = .returned (.bool (letterB r)) ∧ w = w' := by
  go_enter Tryz.func126, Tryz.ntmps126
  go_wp2
  all_goals
    go_ret
    exact ⟨ret_bool (by unfold letterB; rw [Bool.eq_iff_iff]; simp; omega), rfl⟩

set_option maxHeartbeats 400000 in
theorem later_c (r : Int) (w : World) :
    Calls Tryz.prog 127 #[.int .i32 r] w fun e w' => e = .returned (.bool (laterB r)) ∧ w = w' := by
  cases hb : letterB r
  all_goals
    have HB := Lib.hid hb
    clear hb
    go_enter Tryz.func127, Tryz.ntmps127
    go_wp2_with (go_at_call 126; refine (letter_c _ _).mono ?_; rintro e w' ⟨rfl, rfl⟩; rw [HB.out])
    all_goals
      go_ret
      exact ⟨ret_bool (by unfold laterB; rw [HB.out, Bool.eq_iff_iff]; simp; try omega), rfl⟩

set_option maxHeartbeats 400000 in
theorem Name_c (s : ByteArray) (w : World) (hs : s.size ≤ maxLen) :
    Calls Tryz.prog 85 #[.string s] w fun e w' => e = .returned (.bool (nameB s)) ∧ ∃ pos, w' = w.iter s pos := by
  unfold maxLen at hs
  have h0 : (runesAt s 0).length ≤ s.size := by have := runesAt_length s 0; omega
  go_enter Tryz.func85, Tryz.ntmps85
  go_wp2
  go_loopw [3] (fun n wr => ∃ (pos k : Nat), wr = w.iter s pos ∧ n = .int .i64 k ∧ k + (runesAt s pos).length ≤ s.size ∧ nameGo k (runesAt s pos) = nameB s) (fun _ wr => s.size - wr.iterPos w.heap.size)
  case atStart => exact ⟨0, 0, rfl, rfl, by omega, rfl⟩
  case round =>
    obtain ⟨pos, k, rfl, rfl, hk, hg⟩ := hrel
    by_cases hp : pos < s.size
    · have hnx : ∀ ty, (Instr.next (.pointer (some ⟨w.heap.size, 0, none⟩)) true ty).run Tryz.prog (w.iter s pos) = _ := fun ty => run_next_any w s pos ty hp
      have hwd := Lib.decode_width_pos s pos hp
      rw [runesAt_step s pos hp] at hg hk
      simp only [nameGo] at hg
      simp only [List.length_cons] at hk
      have HG := Lib.hid hg
      clear hg
      go_wp2_with (first | (go_at_call 126; refine (letter_c _ _).mono ?_; rintro e w' ⟨rfl, rfl⟩) | (go_at_call 127; refine (later_c _ _).mono ?_; rintro e w' ⟨rfl, rfl⟩))
      all_goals first
        | (go_ret; exact ⟨ret_bool (by rw [← HG.out, if_pos (by simp_all)]), _, rfl⟩)
        | (go_roundw
           case rel => exact ⟨_, k + 1, rfl, by first | go_num | simp_all, by omega, by rw [← HG.out, if_neg (by simp_all)]⟩
           case measure => simp; omega)
    · have hnx : ∀ ty, (Instr.next (.pointer (some ⟨w.heap.size, 0, none⟩)) true ty).run Tryz.prog (w.iter s pos) = _ := fun ty => run_next_end w s pos ty hp
      rw [runesAt_end s pos hp] at hg
      simp only [nameGo] at hg
      have HG := Lib.hid hg
      clear hg
      go_wp2
      all_goals (go_ret; exact ⟨ret_bool (by rw [← HG.out, Bool.eq_iff_iff]; simp; omega), _, rfl⟩)

end Go.Proofs.YtjbchkgkapccnaaGreatDoor

namespace Go.Proofs.YtjbchkgkapccnaaGreatDoor
open Go.RowKit
set_option linter.unusedVariables false

structure KB (w0 w : World) (L : List (Nat × TypeId × Array Value)) : Prop where
  below : Below w0.heap.size w0 w
  blk : ∀ x ∈ L, Blk w x.1 x.2.1 x.2.2
namespace KB
variable {w0 w w' : World} {L : List (Nat × TypeId × Array Value)} {b : Nat} {t : TypeId} {cs : Array Value} {x : Nat × TypeId × Array Value}
theorem start (w0 : World) : KB w0 w0 [] := ⟨Below.refl _ _, by simp⟩
theorem keep (h : KB w0 w L) (hb : Below w.heap.size w w') : KB w0 w' L :=
  ⟨h.below.trans (hb.mono h.below.size), fun x hx => (h.blk x hx).below hb (h.blk x hx).lt⟩
theorem push (h : KB w0 w L) (cs : Array Value) (t : TypeId) : KB w0 (w.alloc (.cells cs t)) ((w.heap.size, t, cs) :: L) :=
  ⟨h.below.alloc h.below.size _, fun x hx => by
    rcases List.mem_cons.1 hx with rfl | hx
    · exact Blk.new _ _ _
    · exact (h.blk x hx).alloc _⟩
/-- .. where its number is spelled otherwise. -/
theorem pushN (h : KB w0 w L) (k : Nat) (hk : k = w.heap.size) (cs : Array Value) (t : TypeId) : KB w0 (w.alloc (.cells cs t)) ((k, t, cs) :: L) := by subst hk; exact h.push cs t
theorem grow (h : KB w0 w L) (o : Obj) : KB w0 (w.alloc o) L := ⟨h.below.alloc h.below.size _, fun x hx => (h.blk x hx).alloc _⟩
theorem drew (h : KB w0 w L) : KB w0 w.drew L := ⟨h.below.drew, h.blk⟩
theorem drewN (h : KB w0 w L) (n : Nat) : KB w0 (w.drewN n) L := ⟨below_drewN h.below n, h.blk⟩
theorem hd (h : KB w0 w ((b, t, cs) :: L)) : Blk w b t cs := h.blk (b, t, cs) (by simp)
theorem tl (h : KB w0 w (x :: L)) : KB w0 w L := ⟨h.below, fun y hy => h.blk y (by simp [hy])⟩
theorem add (h : KB w0 w L) (hb : Blk w b t cs) : KB w0 w ((b, t, cs) :: L) := ⟨h.below, fun y hy => by
  rcases List.mem_cons.1 hy with rfl | hy
  · exact hb
  · exact h.blk y hy⟩
/-- A new cell's value, behind the block w0 ends with: the other blocks are other ones. -/
theorem set (h : KB w0 w ((b, t, cs) :: L)) (hb : w0.heap.size ≤ b) (hne : ∀ x ∈ L, x.1 ≠ b) (j : Nat) (u : Value) : KB w0 (w.setCell ⟨b, j, none⟩ u) ((b, t, cs.setIfInBounds j u) :: L) :=
  ⟨h.below.setCell (p := ⟨b, j, none⟩) hb u, fun x hx => by
    rcases List.mem_cons.1 hx with rfl | hx
    · exact h.hd.set j u
    · exact (h.blk x (by simp [hx])).other (p := ⟨b, j, none⟩) (hne x hx) u⟩
end KB

end Go.Proofs.YtjbchkgkapccnaaGreatDoor

namespace Go.Proofs.YtjbchkgkapccnaaGreatDoor
open Go.RowKit Go.ChangeShapes Go.WideShapes
set_option linter.unusedVariables false

theorem cellsExpr : Tryz.prog.cellsOf 47 = 3 := by kernel_rfl

theorem Exs.ok_of : ∀ (l : List Ex), (∀ j (h : j < l.length), (l[j]'h).ok) → Exs.ok l
  | [], _ => trivial
  | x :: l, h => ⟨h 0 (by simp), Exs.ok_of l (fun j hj => h (j + 1) (by simpa using hj))⟩

section
variable {H : Type} {enc : TypeId × Value → H} {w : World}

theorem add_spot {w : World} {a : Addr} {v : Value} (h : w.cell? a = some v) : a = ⟨a.block, a.off, none⟩ := by
  obtain ⟨b, o, s⟩ := a
  cases s with
  | none => rfl
  | some q =>
    unfold World.cell? at h
    split at h <;> simp at h

set_option maxRecDepth 100000 in
theorem open_exs (fuel : Nat) : ∀ (sv : Value) (x : DataW H × List MemPlace), DataW.trod enc Tryz.prog w 0 (fun _ => true) true fuel 45 [sv] = some x →
    ∃ l : List Ex, ArgsAt w w.heap.size l sv ∧ Exs.ok l := by
  induction fuel using Nat.strongRecOn with
  | ind fuel ih =>
    intro sv x h
    rcases DataW.trod_slice Tryz.underlying45 h with ⟨h0, _⟩ | ⟨a, len, cap, elems, rest, n, hf, hcs, hx, hb, hl, hm, hlen, hel, _, _⟩
    · simp only [List.cons.injEq, and_true] at h0
      subst h0
      exact ⟨[], .nil none 0 (Nat.zero_le _), trivial⟩
    · simp only [List.cons.injEq, and_true] at hcs
      subst hcs
      rw [cellsExpr] at hel
      have hex : ∀ i, i < len → ∃ (y : Ex) (sv : Value), w.cell? (a.add (i * 3)) = some (.int .u8 y.op) ∧ w.cell? (a.add (i * 3 + 1)) = some (.int .i64 y.n) ∧ w.cell? (a.add (i * 3 + 2)) = some sv ∧ ArgsAt w w.heap.size y.args sv ∧ y.ok := by
        intro i hi
        have hi2 : i < elems.length := by omega
        have h1 := hel i hi
        rw [List.getElem?_eq_getElem hi2] at h1
        obtain ⟨cs, h2, h3⟩ := Option.bind_eq_some_iff.1 h1
        obtain ⟨_, hcl, hcell⟩ := World.cells?_some h2
        obtain ⟨xs, m, hm2, _, _, _, hfs⟩ := DataW.trod_struct Tryz.underlying47 h3
        match cs, hcl with
        | [c0, c1, c2], _ =>
          have q0 := hfs 0 _ rfl
          have q1 := hfs 1 _ rfl
          have q2 := hfs 2 _ rfl
          have hxl : xs.length = 3 := by assumption
          obtain ⟨y0, y1, y2, rfl⟩ : ∃ y0 y1 y2, xs = [y0, y1, y2] := by
            match xs, hxl with
            | [y0, y1, y2], _ => exact ⟨y0, y1, y2, rfl⟩
          have e0 : DataW.trod enc Tryz.prog w 0 (fun _ => true) true m 5 [c0] = some y0 := q0
          have e1 : DataW.trod enc Tryz.prog w 0 (fun _ => true) true m 2 [c1] = some y1 := q1
          have e2 : DataW.trod enc Tryz.prog w 0 (fun _ => true) true m 45 [c2] = some y2 := q2
          obtain ⟨o, ho, _, hwo⟩ := DataW.trod_int Tryz.underlying5 e0
          obtain ⟨k, hk, _, hwk⟩ := DataW.trod_int Tryz.underlying2 e1
          simp only [List.cons.injEq, and_true] at ho hk
          subst ho
          subst hk
          obtain ⟨l, hl1, hl2⟩ := ih m (by omega) c2 y2 e2
          have g0 := hcell 0 (by omega)
          have g1 := hcell 1 (by omega)
          have g2 := hcell 2 (by omega)
          rw [Go.Deep.add_add] at g0 g1 g2
          simp only [Lit.wf, IntKind.min, IntKind.max, IntKind.signed, IntKind.bits, Bool.and_eq_true, decide_eq_true_eq] at hwo hwk
          refine ⟨.mk o k l, c2, by simpa [Ex.op] using g0, by simpa [Ex.n] using g1, by simpa using g2, hl1, ?_⟩
          simp only [Ex.ok]
          refine ⟨?_, ?_, ?_, ?_, hl2⟩
          · have := hwo.1; simp at this; omega
          · have := hwo.2; simp at this; omega
          · have := hwk.1; simp at this; omega
          · have := hwk.2; simp at this; omega
      by_cases h0 : len = 0
      · subst h0
        exact ⟨[], .nil _ _ hm, trivial⟩
      · obtain ⟨Y, hY⟩ := @Go.Deep.choose_lt Ex ⟨.mk 0 0 []⟩ len _ hex
        obtain ⟨V, hV⟩ := Go.Deep.choose_lt hY
        obtain ⟨b, off, rfl⟩ : ∃ b off, a = ⟨b, off, none⟩ := ⟨_, _, add_spot (by have := (hV 0 (by omega)).1; simpa [Addr.add] using this)⟩
        have hlt : b < w.heap.size := World.block_lt_of_cell? _ _ (by have := (hV 0 (by omega)).1; simpa [Addr.add] using this : w.cell? ⟨b, off, none⟩ = some _)
        have hadd : ∀ k, (⟨b, off, none⟩ : Addr).add k = ⟨b, off + k, none⟩ := by
          intro k; unfold Addr.add; split
          · rename_i h; rw [h]; rfl
          · rfl
        have hg : ∀ j (h : j < ((List.range len).map Y).length), ((List.range len).map Y)[j]'h = Y j := by intro j h; simp
        have hA := ArgsAt.cons (w := w) (B := w.heap.size) ((List.range len).map Y) b off cap V (by simp; omega) hlt (by simpa using hl) hm
          (fun j h => by rw [hg]; have := (hV j (by simpa using h)).1; rwa [hadd] at this)
          (fun j h => by rw [hg]; have := (hV j (by simpa using h)).2.1; rwa [hadd, ← Nat.add_assoc] at this)
          (fun j h => by have := (hV j (by simpa using h)).2.2.1; rwa [hadd, ← Nat.add_assoc] at this)
          (fun j h => by rw [hg]; exact (hV j (by simpa using h)).2.2.2.1)
        refine ⟨(List.range len).map Y, ?_, Exs.ok_of _ (fun j h => by rw [hg]; exact (hV j (by simpa using h)).2.2.2.2)⟩
        simpa using hA

set_option maxRecDepth 100000 in
/-- An expression that is handed in by value. -/
theorem open_ex {r : Reach} {b0 : Nat} {v : Value} {d : DataW H} {p : List MemPlace} (hv : Value.okWide Tryz.prog w r b0 47 v) (h : DataW.Trod enc Tryz.prog w 0 (fun _ => true) true 47 v d p) :
    ∃ x : Ex, ExAt w w.heap.size v x ∧ x.ok := by
  obtain ⟨c0, c1, c2, y0, y1, y2, m, rfl, _, _, e0, e1, e2⟩ := Go.Joins.open_agg3 Tryz.underlying47 (by kernel_rfl) cellsExpr hv h
  obtain ⟨o, ho, _, hwo⟩ := DataW.trod_int Tryz.underlying5 e0
  obtain ⟨k, hk, _, hwk⟩ := DataW.trod_int Tryz.underlying2 e1
  simp only [List.cons.injEq, and_true] at ho hk
  subst ho
  subst hk
  obtain ⟨l, hl1, hl2⟩ := open_exs m c2 y2 e2
  simp only [Lit.wf, IntKind.min, IntKind.max, IntKind.signed, IntKind.bits, Bool.and_eq_true, decide_eq_true_eq] at hwo hwk
  refine ⟨.mk o k l, ⟨c2, rfl, hl1⟩, ?_⟩
  simp only [Ex.ok]
  refine ⟨?_, ?_, ?_, ?_, hl2⟩
  · have := hwo.1; simp at this; omega
  · have := hwo.2; simp at this; omega
  · have := hwk.1; simp at this; omega
  · have := hwk.2; simp at this; omega

end
end Go.Proofs.YtjbchkgkapccnaaGreatDoor

namespace Go.Proofs.YtjbchkgkapccnaaGreatDoor
open Go.RowKit
set_option linter.unusedVariables false

set_option maxHeartbeats 400000 in
theorem rletter_c (r : Int) (w : World) :
    Calls Tryz.prog 137 #[.int .i32 r] w fun e w' => e = .returned (.bool (letterB r)) ∧ w = w' := by
  go_enter Tryz.func137, Tryz.ntmps137
  go_wp2
  all_goals
    go_ret
    exact ⟨ret_bool (by unfold letterB; rw [Bool.eq_iff_iff]; simp; omega), rfl⟩

theorem info_i32 : (Tryz.prog.info? 21).map (fun i => (i.zero, i.size, i.bytes)) = some (some (.int .i32 0), 1, 4) := by kernel_rfl
theorem info_int : (Tryz.prog.info? 3).map (fun i => (i.zero, i.size, i.bytes)) = some (some (.int .i64 0), 1, 8) := by kernel_rfl

/-- Rows of two types lie in two blocks. -/
theorem owns_apart {w : World} {b1 b2 : Nat} {e1 e2 : TypeId} {s1 s2 n1 n2 : Nat} {v1 v2 : Value} {x1 x2 : List Value} (h1 : w.ownsRow b1 e1 s1 v1 n1 x1) (h2 : w.ownsRow b2 e2 s2 v2 n2 x2) (he : e1 ≠ e2) :
    v2.ownBlock = none ∨ v2.ownBlock ≠ v1.ownBlock := by
  rcases h2.2 with ⟨rfl, _⟩ | ⟨g2, c2, cur2, rfl, _, hg2, _⟩
  · exact .inl rfl
  · rcases h1.2 with ⟨rfl, _⟩ | ⟨g1, c1, cur1, rfl, _, hg1, _⟩
    · exact .inr (by simp [Value.ownBlock])
    · refine .inr (fun h => ?_)
      simp only [Value.ownBlock, Option.some.injEq] at h
      rw [h, hg1] at hg2
      simp only [Option.some.injEq, Obj.cells.injEq] at hg2
      exact he hg2.2.1

structure RunesRel (s : ByteArray) (w : World) (v1 v2 : Value) (wr : World) : Prop where
  ex : ∃ (pos : Nat) (l a : List Value), wr.heap[w.heap.size]? = some (.stringIter s pos) ∧ Below w.heap.size w wr ∧ w.heap.size + 1 ≤ wr.heap.size ∧
    wr.ownsRow (w.heap.size + 1) 21 1 v1 l.length l ∧ wr.ownsRow (w.heap.size + 1) 3 1 v2 a.length a ∧ l.length + (runesAt s pos).length ≤ 1000000 ∧ a.length = l.length ∧
    l ++ (runesAt s pos).map (Value.int .i32) = (runes s).map (Value.int .i32)

set_option maxHeartbeats 1000000 in
theorem Runes_c (s : ByteArray) (w : World) (hs : s.size ≤ 1000000) :
    Calls Tryz.prog 136 #[.string s] w fun e w' => ∃ v1 v2, e = .returned (.tuple #[v1, v2]) ∧ Sl w' w'.heap.size 1 v1 (runes s).length ((runes s).map (Value.int .i32)) ∧ Below w.heap.size w w' := by
  obtain ⟨i0, hi, hz0, hz1, hz2⟩ := info_parts info_i32
  obtain ⟨j0, ki, kz0, kz1, kz2⟩ := info_parts info_int
  go_enter Tryz.func136, Tryz.ntmps136
  go_wp2
  go_loopw [4, 5] (fun v1 v2 wr => RunesRel s w v1 v2 wr) (fun _ _ wr => s.size - wr.iterPos w.heap.size)
  case atStart => exact ⟨⟨0, [], [], heap_new_at _ _ rfl, (Below.refl _ _).alloc (Nat.le_refl _) _, by simp [World.iter], World.ownsRow_nil _ _ _ _, World.ownsRow_nil _ _ _ _, by have := runesAt_length s 0; simp; omega, rfl, rfl⟩⟩
  case round =>
    obtain ⟨pos, l, a, hit, hB, hsz, h1, h2, hl, ha, hg⟩ := hrel.ex
    by_cases hp : pos < s.size
    · have hnx : ∀ ty, (Instr.next (.pointer (some ⟨w.heap.size, 0, none⟩)) true ty).run Tryz.prog wr = _ := fun ty => Lib.run_next_any_at wr w.heap.size s pos ty hit hp
      have hwd := Lib.decode_width_pos s pos hp
      have hB1 := Lib.below_iterAt hB (k := w.heap.size) (Nat.le_refl _) s (pos + (Utf8.decode s pos).2)
      have hit1 := Lib.iterAt_heap wr w.heap.size s pos (pos + (Utf8.decode s pos).2) hit
      have hsz1 : w.heap.size + 1 ≤ (wr.iterAt w.heap.size s (pos + (Utf8.decode s pos).2)).heap.size := by rw [Lib.iterAt_size]; exact hsz
      have h1' := ownsRow_iterAt h1 (k := w.heap.size) (by omega) s (pos + (Utf8.decode s pos).2)
      have h2' := ownsRow_iterAt h2 (k := w.heap.size) (by omega) s (pos + (Utf8.decode s pos).2)
      rw [runesAt_step s pos hp, List.map_cons] at hg
      rw [runesAt_step s pos hp, List.length_cons] at hl
      rw [iterPos_of hit]
      generalize wr.iterAt w.heap.size s (pos + (Utf8.decode s pos).2) = W at *
      have HG := Lib.hid hg
      have HIT := Lib.hid hit1
      have HA := Lib.hid ha
      have hl2 : l.length + 1 ≤ 1000000 := by omega
      have ha2 : a.length + 1 ≤ 1000000 := by omega
      clear hg hit1 ha hit hrel
      go_upto_region 7 with (at_builtin; refine wpList_append_own _ rfl (.tmp 14) (.tmp 16) 179 rfl (w.heap.size + 1) 21 i0 (.int .i32 0) 1 4 Tryz.underlying179 hi hz0 hz1 hz2 rfl (by decide) u4 l.length l rfl (h1'.alloc _) ⟨W.heap.size, 0, none⟩ 1 1 [.int .i32 ((Utf8.decode s pos).1 : Int)] rfl rfl (cell_one_new _ _ _) (by simp [Value.oneCell']) (by unfold maxLen; omega) (by omega) (by simp; omega) ?_; intro v1' w1 hown1 hgrow1 _)
      have hb1 : ∀ k, u4.ownBlock = some k → w.heap.size + 1 ≤ k := fun k hk => (h1'.lt k hk).1
      have h2w := (h2'.alloc (.cells #[.int .i32 ((Utf8.decode s pos).1 : Int)] 21)).kept hgrow1 (owns_apart h1' h2' (by decide))
      have hB2 : Below w.heap.size w w1 := (hB1.alloc (by omega) _).grown hgrow1 (by simp; omega) (fun k hk => by have := hb1 k hk; omega)
      have hit2 : w1.heap[w.heap.size]? = some (.stringIter s (pos + (Utf8.decode s pos).2)) := by
        rw [hgrow1.block _ (by simp; omega) (fun e => by have := hb1 _ e.symm; omega), alloc_old _ _ _ (by omega)]; exact HIT.out
      have hsz2 : w.heap.size + 1 ≤ w1.heap.size := by have := hgrow1.size; simp at this; omega
      have hb2 : ∀ k, u5.ownBlock = some k → w.heap.size + 1 ≤ k := fun k hk => (h2w.lt k hk).1
      have HIT2 := Lib.hid hit2
      clear hit2
      go_wp2_with (at_builtin; refine wpList_append_own _ rfl (.tmp 18) (.tmp 20) 37 rfl (w.heap.size + 1) 3 j0 (.int .i64 0) 1 8 Tryz.underlying37 ki kz0 kz1 kz2 rfl (by decide) u5 a.length a rfl (h2w.alloc _) ⟨w1.heap.size, 0, none⟩ 1 1 [.int .i64 (pos : Int)] rfl rfl (cell_one_new _ _ _) (by simp [Value.oneCell']) (by unfold maxLen; omega) (by omega) (by simp; omega) ?_; intro v2' w2 hown2 hgrow2 _)
      have hit3 : w2.heap[w.heap.size]? = some (.stringIter s (pos + (Utf8.decode s pos).2)) := by
        rw [hgrow2.block _ (by simp; omega) (fun e => by have := hb2 _ e.symm; omega), alloc_old _ _ _ (by omega)]; exact HIT2.out
      have hB3 : Below w.heap.size w w2 := (hB2.alloc (by omega) _).grown hgrow2 (by simp; omega) (fun k hk => by have := hb2 k hk; omega)
      have hsz3 : w.heap.size + 1 ≤ w2.heap.size := by have := hgrow2.size; simp at this; omega
      have h1w := (hown1.alloc (.cells #[.int .i64 (pos : Int)] 3)).kept hgrow2 (owns_apart h2w hown1 (by decide))
      go_roundw
      case rel =>
        refine ⟨⟨pos + (Utf8.decode s pos).2, l ++ [.int .i32 ((Utf8.decode s pos).1 : Int)], a ++ [.int .i64 (pos : Int)], hit3, hB3, hsz3, ?_, ?_, ?_, ?_, ?_⟩⟩
        · simpa using h1w
        · simpa using hown2
        · simp; omega
        · simp [HA.out]
        · rw [← HG.out]; simp
      case measure =>
        rw [iterPos_of hit3]
        omega
    · have hnx : ∀ ty, (Instr.next (.pointer (some ⟨w.heap.size, 0, none⟩)) true ty).run Tryz.prog wr = _ := fun ty => Lib.run_next_end_at wr w.heap.size s pos ty hit hp
      rw [runesAt_end s pos hp, List.map_nil, List.append_nil] at hg
      have hS : Sl wr wr.heap.size 1 u4 (runes s).length ((runes s).map (Value.int .i32)) := by
        have := Sl.of_owns h1
        rw [hg, List.length_map] at this
        exact this
      have HS := Lib.hid hS
      clear hS hg
      go_wp2
      go_ret2
      exact ⟨_, _, rfl, HS.out, hB⟩

/-- As the reference tells a name. -/
def rlaterB (r : Int) : Bool := letterB r || decide (48 ≤ r ∧ r ≤ 57) || decide (r = 45)
def rnameB (rs : List Int) : Bool := decide (1 ≤ rs.length ∧ rs.length ≤ 24) && letterB (rs.getD 0 0) && rs.all rlaterB

theorem rlater_eq (r : Int) : laterB r = rlaterB r := by
  unfold laterB rlaterB
  cases letterB r
  · rw [Bool.eq_iff_iff]; simp
  · rfl
theorem rname_tail : ∀ (rs : List Int) (n : Nat), 0 < n → nameGo n rs = (decide (n + rs.length ≤ 24) && rs.all rlaterB)
  | [], n, h => by simp [nameGo, h]
  | r :: rs, n, h => by
    simp only [nameGo, List.length_cons, List.all_cons]
    rw [rname_tail rs (n + 1) (by omega), rlater_eq]
    cases rlaterB r
    · simp
    · have h0 : ¬ n = 0 := by omega
      have h1 : n + 1 + rs.length = n + (rs.length + 1) := by omega
      simp [h0, h1]
theorem rname_eq (s : ByteArray) : rnameB (runes s) = nameB s := by
  unfold nameB rnameB
  cases h : runes s with
  | nil => rfl
  | cons r rs =>
    simp only [nameGo, List.length_cons, List.getD_cons_zero, List.all_cons]
    rw [rname_tail rs 1 (by omega)]
    have e2 : letterB r = true → rlaterB r = true := by intro h; unfold rlaterB; rw [h]; rfl
    rw [rlater_eq]
    cases hl : letterB r
    · simp
    · rw [e2 hl]
      have h1 : (decide (1 + rs.length ≤ 24)) = decide (1 ≤ rs.length + 1 ∧ rs.length + 1 ≤ 24) := by rw [decide_eq_decide]; omega
      rw [h1]
      simp

set_option maxHeartbeats 1000000 in
theorem rName_c (s : ByteArray) (w : World) (hs : s.size ≤ 1000000) :
    Calls Tryz.prog 97 #[.string s] w fun e w' => e = .returned (.bool (nameB s)) ∧ Below w.heap.size w w' := by
  rw [← rname_eq]
  generalize hrs : runes s = rs
  have HRS := Lib.hid hrs
  clear hrs
  by_cases h1 : rs.length < 1
  · have HR : Hid (rnameB rs = false) := by unfold rnameB; rw [decide_eq_false (by omega)]; rfl
    go_enter Tryz.func97, Tryz.ntmps97
    go_wp2_with (go_at_call 136; refine (Runes_c _ _ hs).mono ?_; rintro e w1 ⟨v1, v2, rfl, hS, hB⟩; rw [HRS.out] at hS; obtain ⟨_, a, cap, rfl, _⟩ := hS)
    go_ret
    exact ⟨ret_bool HR.out.symm, hB⟩
  by_cases h2 : 24 < rs.length
  · have HR : Hid (rnameB rs = false) := by unfold rnameB; rw [decide_eq_false (by omega)]; rfl
    go_enter Tryz.func97, Tryz.ntmps97
    go_wp2_with (go_at_call 136; refine (Runes_c _ _ hs).mono ?_; rintro e w1 ⟨v1, v2, rfl, hS, hB⟩; rw [HRS.out] at hS; obtain ⟨_, a, cap, rfl, _⟩ := hS)
    go_ret
    exact ⟨ret_bool HR.out.symm, hB⟩
  have h3 : 0 < rs.length := by omega
  cases h4 : letterB (rs[0]'h3)
  · have HR : Hid (rnameB rs = false) := by
      unfold rnameB
      rw [show rs.getD 0 0 = rs[0]'h3 by simp [List.getD, h3], h4]; simp [Hid]
    have H4 := Lib.hid h4
    clear h4
    go_enter Tryz.func97, Tryz.ntmps97
    go_wp2_with (first
      | (go_at_call 136; refine (Runes_c _ _ hs).mono ?_; rintro e w1 ⟨v1, v2, rfl, hS, hB⟩; rw [HRS.out] at hS; obtain ⟨b, off, cap, rfl, hb, hl, c0⟩ := hS.int 0 h3; rw [Nat.add_zero] at c0)
      | (go_at_call 137; refine (rletter_c _ _).mono ?_; rintro e w1' ⟨rfl, rfl⟩; rw [H4.out]))
    go_ret
    exact ⟨ret_bool HR.out.symm, hB⟩
  · have H4 := Lib.hid h4
    clear h4
    have HE : Hid (rnameB rs = rs.all rlaterB) := by
      unfold rnameB
      rw [show rs.getD 0 0 = rs[0]'h3 by simp [List.getD, h3], H4.out, decide_eq_true (show 1 ≤ rs.length ∧ rs.length ≤ 24 by omega)]; simp [Hid]
    go_enter Tryz.func97, Tryz.ntmps97
    go_wp2_with (first
      | (go_at_call 136; refine (Runes_c _ _ hs).mono ?_; rintro e w1 ⟨v1, v2, rfl, hS, hB⟩; rw [HRS.out] at hS; obtain ⟨b, off, cap, rfl, hb, hl, c0⟩ := hS.int 0 h3; rw [Nat.add_zero] at c0; have HS := Lib.hid hS; clear hS)
      | (go_at_call 137; refine (rletter_c _ _).mono ?_; rintro e w1' ⟨rfl, rfl⟩; rw [H4.out]))
    go_loop [5] (fun i => ∃ k : Nat, i = .int .i64 k ∧ k ≤ rs.length ∧ (rs.drop k).all rlaterB = rs.all rlaterB) (fun i => rs.length - (intOf i).toNat)
    case atStart => exact ⟨0, rfl, by omega, rfl⟩
    case round =>
      obtain ⟨k, rfl, hk, hr⟩ := hrel
      by_cases hlt : k < rs.length
      · obtain ⟨b', off', cap', e', hb', hl', ck⟩ := HS.out.int k hlt
        simp only [Value.slice.injEq, Option.some.injEq, Addr.mk.injEq, true_and, and_true] at e'
        obtain ⟨⟨rfl, rfl⟩, rfl⟩ := e'
        rw [List.drop_eq_getElem_cons hlt, List.all_cons] at hr
        generalize hx : rs[k] = x at *
        have HX := Lib.hid hx
        have HR := Lib.hid hr
        clear hx hr c0
        go_wp2_with (go_at_call 137; refine (rletter_c _ _).mono ?_; rintro e w1' ⟨rfl, rfl⟩)
        all_goals first
          | (go_ret
             have hf : rlaterB x = false := by unfold rlaterB; rw [← Bool.not_eq_true]; simp_all; try omega
             exact ⟨ret_bool (by rw [HE.out, ← HR.out, hf]; rfl), hB⟩)
          | (go_round
             case rel =>
               have hf : rlaterB x = true := by unfold rlaterB; simp_all; try omega
               exact ⟨k + 1, by go_num, by omega, by rw [← HR.out, hf, Bool.true_and]⟩
             case measure => simp [intOf]; omega)
      · have e1 : rs.drop k = [] := List.drop_of_length_le (by omega)
        rw [e1] at hr
        have HR := Lib.hid hr
        clear hr e1 c0
        go_wp2
        go_ret
        exact ⟨ret_bool (by rw [HE.out, ← HR.out]; rfl), hB⟩

end Go.Proofs.YtjbchkgkapccnaaGreatDoor
