/-
  The imports of all texts, and plain definitions of what the functions of 'names' and 'lex' compute (no program in sight).
-/
import Derived.WalkKit
import Derived.WalkSpells
import Derived.WalkLawsBesides
import Derived.Handy
import Derived.Lib.Hide
import Derived.Lib.RuneCount
import Derived.Lib.Strings
import Derived.Lib.OthersKept
import Derived.Deep.QuietTactic
import Derived.BigQuiet
import Derived.Deep.DeepFit
import Derived.Deep.RegionWith
import Derived.Deep.DeepCutAuto
import Derived.Deep.LoopGhost
import Derived.StillTailTactics
namespace Go.Proofs.Ytfieoehchghiiaa
open Go.RowKit
set_option linter.unusedVariables false

theorem ret_bool {a b : Bool} (h : a = b) : Ending.returned (.bool a) = .returned (.bool b) := by rw [h]
theorem ret_int {k : IntKind} {a b : Int} (h : a = b) : Ending.returned (.int k a) = .returned (.int k b) := by rw [h]

theorem bytes_inj (a b : ByteArray) : a.toList = b.toList ↔ a = b := by
  rw [ByteArray.toList_eq, ByteArray.toList_eq]
  obtain ⟨⟨x⟩⟩ := a
  obtain ⟨⟨y⟩⟩ := b
  simp

/-- A letter of a name. -/
def letterB (r : Int) : Bool := decide (97 ≤ r ∧ r ≤ 122 ∨ 65 ≤ r ∧ r ≤ 90 ∨ 191 < r ∧ r ≠ 65533)
/-- What may stand later in a name. -/
def laterB (r : Int) : Bool := letterB r || decide (48 ≤ r ∧ r ≤ 57 ∨ r = 45)

theorem encode_size (r : Int) : (Utf8.encode r).size ≤ 4 := by
  unfold Utf8.encode
  dsimp only
  repeat' split
  all_goals simp [ByteArray.size]

/-- The runes of a string from a place on. -/
def runesF (s : ByteArray) : Nat → Nat → List Int
  | 0, _ => []
  | f + 1, pos => if pos < s.size then ((Utf8.decode s pos).1 : Int) :: runesF s f (pos + (Utf8.decode s pos).2) else []
def runesAt (s : ByteArray) (pos : Nat) : List Int := runesF s (s.size - pos) pos

theorem runesF_enough (s : ByteArray) : ∀ f g pos, s.size - pos ≤ f → s.size - pos ≤ g → runesF s f pos = runesF s g pos := by
  intro f
  induction f with
  | zero =>
    intro g pos h1 h2
    cases g with
    | zero => rfl
    | succ g => simp only [runesF]; rw [if_neg (by omega)]
  | succ f ih =>
    intro g pos h1 h2
    by_cases hp : pos < s.size
    · cases g with
      | zero => omega
      | succ g =>
        simp only [runesF]
        rw [if_pos hp, if_pos hp]
        have hw := Lib.decode_width_pos s pos hp
        rw [ih g _ (by omega) (by omega)]
    · cases g with
      | zero => simp only [runesF]; rw [if_neg hp]
      | succ g => simp only [runesF]; rw [if_neg hp, if_neg hp]

theorem runesAt_end (s : ByteArray) (pos : Nat) (h : ¬ pos < s.size) : runesAt s pos = [] := by
  unfold runesAt
  rw [show s.size - pos = 0 by omega]
  rfl
theorem runesAt_step (s : ByteArray) (pos : Nat) (h : pos < s.size) : runesAt s pos = ((Utf8.decode s pos).1 : Int) :: runesAt s (pos + (Utf8.decode s pos).2) := by
  have hw := Lib.decode_width_pos s pos h
  unfold runesAt
  obtain ⟨f, hf⟩ : ∃ f, s.size - pos = f + 1 := ⟨s.size - pos - 1, by omega⟩
  rw [hf]
  simp only [runesF]
  rw [if_pos h]
  rw [runesF_enough s f (s.size - (pos + (Utf8.decode s pos).2)) _ (by omega) (by omega)]
def runes (s : ByteArray) : List Int := runesAt s 0

theorem runesAt_length (s : ByteArray) (pos : Nat) : (runesAt s pos).length ≤ s.size - pos := by
  unfold runesAt
  generalize s.size - pos = f
  induction f generalizing pos with
  | zero => simp [runesF]
  | succ f ih =>
    simp only [runesF]
    split
    · simp only [List.length_cons]; have := ih (pos + (Utf8.decode s pos).2); omega
    · simp

theorem runesAt_ascii (s : ByteArray) (ha : ∀ b ∈ s.data.toList, b.toNat < 128) : ∀ n pos, s.size - pos = n → runesAt s pos = (s.data.toList.drop pos).map (fun b => (b.toNat : Int)) := by
  intro n
  induction n with
  | zero =>
    intro pos h
    rw [runesAt_end s pos (by omega), List.drop_of_length_le (by rw [← Lib.size_eq]; omega)]
    rfl
  | succ n ih =>
    intro pos h
    have hp : pos < s.size := by omega
    have hl : pos < s.data.toList.length := by rw [← Lib.size_eq]; exact hp
    have hm : (s[pos]'hp) ∈ s.data.toList := by
      rw [show (s[pos]'hp) = s.data.toList[pos] from rfl]
      exact List.getElem_mem hl
    rw [runesAt_step s pos hp, decode_ascii s pos hp (ha _ hm), ih (pos + 1) (by omega), List.drop_eq_getElem_cons hl]
    rfl
theorem runes_ascii (s : ByteArray) (ha : ∀ b ∈ s.data.toList, b.toNat < 128) : runes s = s.data.toList.map (fun b => (b.toNat : Int)) := by
  unfold runes
  rw [runesAt_ascii s ha _ 0 rfl]
  rfl

/-- What 'names.Name' tells of the runes, n of them being behind it. -/
def nameGo : Nat → List Int → Bool
  | n, [] => decide (0 < n ∧ n ≤ 24)
  | n, r :: rs => if (n = 0 ∧ letterB r = false) ∨ laterB r = false then false else nameGo (n + 1) rs

def nameB (s : ByteArray) : Bool := nameGo 0 (runes s)

end Go.Proofs.Ytfieoehchghiiaa
