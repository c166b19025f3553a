/-
  For LexNumbers: plain laws on numerals; the library's FormatInt.
-/
import Derived.Test.YtjbchkgkapccnaaGreatDoorP6
import Derived.Lib.ItoaMem
import Derived.Lib.ItoaLen
import Derived.Sort.Grow
namespace Go.Proofs.YtjbchkgkapccnaaGreatDoor.Num
open Go.RowKit
set_option linter.unusedVariables false

theorem numGo_snoc : ∀ (l : List Int) (n r : Int), numGo n (l ++ [r]) = (numGo n l).bind fun m => if m > (9223372036854775807 - (r - 48)) / 10 then none else some (10 * m + (r - 48))
  | [], n, r => by simp only [List.nil_append, numGo, Option.bind_some]
  | x :: l, n, r => by
    simp only [List.cons_append, numGo]
    split
    · rfl
    · exact numGo_snoc l _ r
/-- The digits of a number, as runes. -/
def digR (u : Nat) : List Int := (Lib.decDigits u).map fun b => (b.toNat : Int)
theorem digR_lt {u : Nat} (h : u < 10) : digR u = [48 + (u : Int)] := by
  unfold digR
  rw [Lib.decDigits, dif_pos h]
  have : (UInt8.ofNat (48 + u)).toNat = 48 + u := by simp; omega
  simp only [List.map_cons, List.map_nil]
  rw [this]
  simp
theorem digR_ge {u : Nat} (h : ¬ u < 10) : digR u = digR (u / 10) ++ [48 + ((u % 10 : Nat) : Int)] := by
  unfold digR
  rw [Lib.decDigits, dif_neg h]
  have : (UInt8.ofNat (48 + u % 10)).toNat = 48 + u % 10 := by simp; omega
  rw [List.map_append, List.map_cons, List.map_nil, this]
  simp
theorem numGo_dig (u : Nat) (hu : u ≤ 9223372036854775807) : numGo 0 (digR u) = some (u : Int) := by
  induction u using Nat.strongRecOn with
  | ind u ih =>
    by_cases h : u < 10
    · rw [digR_lt h]
      simp only [numGo]
      rw [if_neg (by omega)]
      simp only [Option.some.injEq]
      omega
    · rw [digR_ge h, numGo_snoc, ih (u / 10) (by omega) (by omega)]
      simp only [Option.bind_some]
      rw [if_neg (by omega)]
      simp only [Option.some.injEq]
      omega
theorem digR_mem (u : Nat) : ∀ r ∈ digR u, 48 ≤ r ∧ r ≤ 57 := by
  induction u using Nat.strongRecOn with
  | ind u ih =>
    by_cases h : u < 10
    · rw [digR_lt h]
      intro r hr
      simp only [List.mem_singleton] at hr
      omega
    · rw [digR_ge h]
      intro r hr
      rcases List.mem_append.1 hr with hr | hr
      · exact ih (u / 10) (by omega) r hr
      · simp only [List.mem_singleton] at hr
        omega
theorem digR_ne (u : Nat) : digR u ≠ [] := by
  by_cases h : u < 10
  · rw [digR_lt h]; simp
  · rw [digR_ge h]; simp
theorem dec_len (u : Nat) (hu : u ≤ 9223372036854775807) : (Lib.decDigits u).length ≤ 21 := by
  have h := Lib.itoa_length_le (u : Int) (by omega) (by omega)
  rwa [Lib.itoa_nonneg] at h
theorem dec_mem (u : Nat) : ∀ b ∈ Lib.decDigits u, b.toNat < 128 := by
  intro b hb
  have := digR_mem u (b.toNat : Int) (by unfold digR; exact List.mem_map.2 ⟨b, hb, rfl⟩)
  omega
theorem kindN_digit {r : Int} (h : 48 ≤ r ∧ r ≤ 57) : kindN r = 2 := by unfold kindN; rw [if_pos h]

theorem numGo_zeros : ∀ (k : Nat) (rs : List Int), numGo 0 (List.replicate k 48 ++ rs) = numGo 0 rs
  | 0, rs => rfl
  | k + 1, rs => by
    rw [List.replicate_succ, List.cons_append]
    simp only [numGo]
    rw [if_neg (by omega)]
    exact numGo_zeros k rs

/-- So many zeros. -/
def zrs (k : Nat) : ByteArray := ⟨(List.replicate k 48).toArray⟩
theorem zrs_succ (k : Nat) : zrs k ++ { data := #[48] } = zrs (k + 1) := by
  apply ByteArray.ext
  rw [ByteArray.data_append]
  unfold zrs
  apply Array.ext'
  simp [List.replicate_succ']
theorem zrs_size (k : Nat) : (zrs k).size = k := by show (List.replicate k 48).toArray.size = k; simp
def decB (u : Nat) : ByteArray := ⟨(Lib.decDigits u).toArray⟩
theorem decB_size (u : Nat) : (decB u).size = (Lib.decDigits u).length := by show (Lib.decDigits u).toArray.size = _; simp

theorem kindN_x : kindN 120 = 1 := by decide +kernel
theorem enc_x : Utf8.encode 120 = { data := #[120] } := by decide +kernel

theorem digs_tokens (x : Int) (run : List Int) (hx : kindN x = 2) (hr : ∀ r ∈ run, kindN r = 2) (m : Int) (hm : numGo 0 (x :: run) = some m) :
    tokGo Tok.zero (-1) [] (x :: (run ++ [120])) = ([⟨2, { data := #[] }, m, 0⟩, ⟨1, { data := #[120] }, 0, run.length + 1⟩], 0, 0) := by
  have hb : ¬ (x = 32 ∨ x = 9) := by
    intro h
    rw [kind_blank x h] at hx
    omega
  rw [tokGo_zero, if_neg hb, if_neg (by omega), hx]
  have h1 := tokGo_num x hx 0 [] run [120] hr (by intro r h; simp at h; subst h; rw [kindN_x]; omega)
  rw [hm] at h1
  rw [show (-1 : Int) + 1 = 0 by omega, h1]
  dsimp only
  rw [tokGo_zero, if_neg (by omega), if_neg (by rw [kindN_x]; omega), kindN_x]
  have h2 := tokGo_name 120 kindN_x (0 + (run.length : Int) + 1) ([] ++ [⟨2, { data := #[] }, m, 0⟩]) [] [] (by simp) (by simp)
  rw [List.append_nil] at h2
  rw [h2]
  simp only [tokGo, endTok_zero]
  have h3 : encAll [120] = { data := #[120] } := by rw [encAll_one, enc_x]
  rw [h3]
  simp

theorem toks_number (k u : Nat) (hk : k ≤ 4) (hu : u ≤ 9223372036854775807) :
    ∃ a : Int, toks ((zrs k ++ decB u) ++ { data := #[120] }) = ([⟨2, { data := #[] }, (u : Int), 0⟩, ⟨1, { data := #[120] }, 0, a⟩], 0, 0) := by
  have hd := dec_len u hu
  have hz : ((zrs k ++ decB u) ++ { data := #[120] } : ByteArray).size = k + (Lib.decDigits u).length + 1 := by
    rw [ByteArray.size_append, ByteArray.size_append, zrs_size, decB_size]
    rfl
  have hbytes : ((zrs k ++ decB u) ++ { data := #[120] } : ByteArray).data.toList = List.replicate k 48 ++ Lib.decDigits u ++ [120] := by
    rw [ByteArray.data_append, ByteArray.data_append, Array.toList_append, Array.toList_append]
    unfold zrs decB
    simp
  have hr : runes ((zrs k ++ decB u) ++ { data := #[120] }) = (List.replicate k 48 ++ digR u) ++ [120] := by
    rw [runes_ascii]
    · rw [hbytes, List.map_append, List.map_append, List.map_replicate]
      rfl
    · rw [hbytes]
      intro b hb
      simp only [List.mem_append, List.mem_singleton, List.mem_replicate] at hb
      rcases hb with (⟨_, rfl⟩ | hb) | rfl
      · decide
      · exact dec_mem u b hb
      · decide
  unfold toks
  rw [if_neg (by omega), hr]
  have hm : numGo 0 (List.replicate k 48 ++ digR u) = some (u : Int) := by rw [numGo_zeros, numGo_dig u hu]
  have hk2 : ∀ r ∈ List.replicate k 48 ++ digR u, kindN r = 2 := by
    intro r h
    rcases List.mem_append.1 h with h | h
    · rw [List.eq_of_mem_replicate h]; exact kindN_digit (by omega)
    · exact kindN_digit (digR_mem u r h)
  have hne : List.replicate k 48 ++ digR u ≠ [] := by simp [digR_ne]
  generalize List.replicate k 48 ++ digR u = L at *
  cases L with
  | nil => exact absurd rfl hne
  | cons x run =>
    refine ⟨run.length + 1, ?_⟩
    rw [List.cons_append, digs_tokens x run (hk2 x (by simp)) (fun r h => hk2 r (by simp [h])) _ hm]

end Go.Proofs.YtjbchkgkapccnaaGreatDoor.Num
