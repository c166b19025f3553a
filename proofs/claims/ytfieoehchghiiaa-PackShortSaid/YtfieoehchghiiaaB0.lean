/-
  Numbers and texts as bytes (plain).
-/
import Derived.Test.YtfieoehchghiiaaS0
import Derived.Lib.VarintBits
import Derived.Laws.Bits64
namespace Go.Proofs.Ytfieoehchghiiaa
open Go.RowKit
set_option linter.unusedVariables false

/-- A number's turned form, and what it is one of. -/
def zig (n : Int) : Nat := if 0 ≤ n then (2 * n).toNat else (-2 * n - 1).toNat
def unzig (u : Nat) : Int := if u % 2 = 0 then ((u / 2 : Nat) : Int) else -((u / 2 : Nat) : Int) - 1
theorem unzig_zig (n : Int) : unzig (zig n) = n := by
  unfold zig unzig
  by_cases h : 0 ≤ n
  · rw [if_pos h, if_pos (by omega)]; omega
  · rw [if_neg h, if_neg (by omega)]; omega
theorem zig_unzig (u : Nat) : zig (unzig u) = u := by
  unfold zig unzig
  by_cases h : u % 2 = 0
  · rw [if_pos h, if_pos (by omega)]; omega
  · rw [if_neg h, if_neg (by omega)]; omega
theorem zig_lt (n : Int) (h1 : -9223372036854775808 ≤ n) (h2 : n ≤ 9223372036854775807) : zig n < 18446744073709551616 := by
  unfold zig
  split <;> omega
theorem unzig_ir (u : Nat) (h : u < 18446744073709551616) : -9223372036854775808 ≤ unzig u ∧ unzig u ≤ 9223372036854775807 := by
  unfold unzig
  split <;> omega

/-- A number's bytes. -/
def vby (u : Nat) : List UInt8 := if h : u < 128 then [UInt8.ofNat u] else UInt8.ofNat (u % 128 + 128) :: vby (u / 128)
termination_by u
decreasing_by omega
theorem vby_lt {u : Nat} (h : u < 128) : vby u = [UInt8.ofNat u] := by rw [vby, dif_pos h]
theorem vby_ge {u : Nat} (h : ¬ u < 128) : vby u = UInt8.ofNat (u % 128 + 128) :: vby (u / 128) := by rw [vby, dif_neg h]
def putN (n : Int) : List UInt8 := vby (zig n)
def putL (l : List Int) : List UInt8 := l.flatMap putN
theorem vby_len : ∀ (k u : Nat), u < 128 ^ (k + 1) → (vby u).length ≤ k + 1
  | 0, u, h => by rw [vby_lt (by simpa using h)]; simp
  | k + 1, u, h => by
    by_cases hu : u < 128
    · rw [vby_lt hu]; simp
    · rw [vby_ge hu, List.length_cons]
      have : u / 128 < 128 ^ (k + 1) := by
        rw [Nat.pow_succ] at h
        exact Nat.div_lt_of_lt_mul (by rw [Nat.mul_comm]; exact h)
      have := vby_len k _ this
      omega
theorem putN_len (n : Int) (h1 : -9223372036854775808 ≤ n) (h2 : n ≤ 9223372036854775807) : (putN n).length ≤ 10 := by
  have h := zig_lt n h1 h2
  exact vby_len 9 _ (by omega)

/-- What Take tells of bytes, i of them being behind it: a number, how many bytes it has, an error. -/
def tkGo : Nat → Nat → List UInt8 → Int × Int × Int
  | _, _, [] => (0, 0, 20)
  | i, u, c :: cs =>
    if i = 9 ∧ 1 < c.toNat then (0, 0, 21)
    else if 128 ≤ c.toNat then tkGo (i + 1) (u + c.toNat % 128 * 2 ^ (7 * i)) cs
    else if c.toNat = 0 ∧ 0 < i then (0, 0, 21)
    else (unzig (u + c.toNat % 128 * 2 ^ (7 * i)), ((i + 1 : Nat) : Int), 0)
def takeS (s : ByteArray) : Int × Int × Int := tkGo 0 0 s.data.toList

/-- What is put is taken. -/
theorem tkGo_vby : ∀ (d u i a : Nat) (rest : List UInt8), i + d = 9 → u < 2 ^ (64 - 7 * i) → (0 < i → 0 < u) → tkGo i a (vby u ++ rest) = (unzig (a + u * 2 ^ (7 * i)), ((i + (vby u).length : Nat) : Int), 0)
  | d, u, i, a, rest, hd, hu, h0 => by
    by_cases h : u < 128
    · have hc : (UInt8.ofNat u).toNat = u := by simp; omega
      rw [vby_lt h, List.singleton_append]
      simp only [tkGo, hc]
      rw [if_neg (by
        rintro ⟨rfl, h1⟩
        have : u < 2 ^ 1 := by simpa using hu
        omega), if_neg (by omega), if_neg (by omega), Nat.mod_eq_of_lt h]
      simp
    · have hc : (UInt8.ofNat (u % 128 + 128)).toNat = u % 128 + 128 := by simp; omega
      have hi : i ≠ 9 := by
        rintro rfl
        have : u < 2 ^ 1 := by simpa using hu
        omega
      rw [vby_ge h, List.cons_append]
      simp only [tkGo, hc]
      rw [if_neg (by omega), if_pos (by omega)]
      obtain ⟨d', rfl⟩ : ∃ d', d = d' + 1 := ⟨d - 1, by omega⟩
      have hu' : u / 128 < 2 ^ (64 - 7 * (i + 1)) := by
        have e : 64 - 7 * i = (64 - 7 * (i + 1)) + 7 := by omega
        rw [e, Nat.pow_add] at hu
        exact Nat.div_lt_of_lt_mul (by rw [Nat.mul_comm]; exact hu)
      rw [tkGo_vby d' (u / 128) (i + 1) _ rest (by omega) hu' (fun _ => by omega)]
      have e1 : (u % 128 + 128) % 128 = u % 128 := by omega
      have e2 : 2 ^ (7 * (i + 1)) = 128 * 2 ^ (7 * i) := by
        rw [show 7 * (i + 1) = 7 + 7 * i by omega, Nat.pow_add]
      rw [e1, e2]
      have e3 : a + u % 128 * 2 ^ (7 * i) + u / 128 * (128 * 2 ^ (7 * i)) = a + u * 2 ^ (7 * i) := by
        rw [Nat.add_assoc, ← Nat.mul_assoc, ← Nat.add_mul]
        congr 2
        omega
      rw [e3]
      simp only [Prod.mk.injEq, List.length_cons, and_true, true_and]
      omega
termination_by d u => u
decreasing_by omega
theorem take_put (n : Int) (h1 : -9223372036854775808 ≤ n) (h2 : n ≤ 9223372036854775807) (rest : List UInt8) : tkGo 0 0 (putN n ++ rest) = (n, ((putN n).length : Int), 0) := by
  unfold putN
  have h := zig_lt n h1 h2
  rw [tkGo_vby 9 _ 0 0 rest rfl (by omega) (fun h => by omega)]
  simp [unzig_zig]

/-- What is taken is what is put of it. -/
theorem tkGo_back : ∀ (cs : List UInt8) (i a : Nat) (n sz : Int), i ≤ 9 → tkGo i a cs = (n, sz, 0) → ∃ (u k : Nat), n = unzig (a + u * 2 ^ (7 * i)) ∧ sz = ((i + k : Nat) : Int) ∧ k ≤ cs.length ∧ 0 < k ∧ cs.take k = vby u ∧ (0 < i → 0 < u) ∧ u < 2 ^ (64 - 7 * i)
  | [], i, a, n, sz, _, h => by simp [tkGo] at h
  | c :: cs, i, a, n, sz, hi, h => by
    have hc8 : c.toNat < 256 := c.toNat_lt
    simp only [tkGo] at h
    by_cases h1 : i = 9 ∧ 1 < c.toNat
    · rw [if_pos h1] at h; simp at h
    · rw [if_neg h1] at h
      by_cases h2 : 128 ≤ c.toNat
      · rw [if_pos h2] at h
        have hi9 : i ≠ 9 := fun e => h1 ⟨e, by omega⟩
        obtain ⟨u, k, e1, e2, e3, e0, e4, e5, e6⟩ := tkGo_back cs (i + 1) _ n sz (by omega) h
        have hu0 := e5 (by omega)
        have g1 : sz = ((i + (k + 1) : Nat) : Int) := by rw [e2]; congr 1; omega
        have g2 : k + 1 ≤ (c :: cs).length := by rw [List.length_cons]; omega
        refine ⟨c.toNat % 128 + 128 * u, k + 1, ?_, g1, g2, by omega, ?_, fun _ => by omega, ?_⟩
        · rw [e1]
          congr 1
          rw [show 7 * (i + 1) = 7 + 7 * i by omega, Nat.pow_add, Nat.add_mul, Nat.add_assoc]
          congr 2
          rw [show (2 : Nat) ^ 7 = 128 from rfl, ← Nat.mul_assoc, Nat.mul_comm u 128]
        · have q0 : ¬ c.toNat % 128 + 128 * u < 128 := by omega
          rw [List.take_succ_cons, e4, vby_ge q0]
          have q1 : (c.toNat % 128 + 128 * u) % 128 + 128 = c.toNat := by omega
          have q2 : (c.toNat % 128 + 128 * u) / 128 = u := by omega
          rw [q1, q2]
          simp
        · have e : 64 - 7 * i = (64 - 7 * (i + 1)) + 7 := by omega
          rw [e, Nat.pow_add]
          have : u + 1 ≤ 2 ^ (64 - 7 * (i + 1)) := e6
          have h7 : (2 : Nat) ^ 7 = 128 := rfl
          rw [h7]
          have := Nat.mul_le_mul_right 128 this
          omega
      · rw [if_neg h2] at h
        by_cases h3 : c.toNat = 0 ∧ 0 < i
        · rw [if_pos h3] at h; simp at h
        · rw [if_neg h3] at h
          simp only [Prod.mk.injEq, and_true] at h
          have hm : c.toNat % 128 = c.toNat := Nat.mod_eq_of_lt (by omega)
          rw [hm] at h
          refine ⟨c.toNat, 1, h.1.symm, h.2.symm, by simp, by omega, ?_, fun hi0 => by omega, ?_⟩
          · rw [vby_lt (by omega)]
            simp
          · by_cases hi9 : i = 9
            · subst hi9
              have : c.toNat < 2 ^ 1 := by omega
              simpa using this
            · have : 2 ^ 7 ≤ 2 ^ (64 - 7 * i) := Nat.pow_le_pow_right (by omega) (by omega)
              have h7 : (2 : Nat) ^ 7 = 128 := rfl
              omega
theorem take_back {cs : List UInt8} {n sz : Int} (h : tkGo 0 0 cs = (n, sz, 0)) : ∃ k : Nat, sz = (k : Int) ∧ k ≤ cs.length ∧ 0 < k ∧ cs.take k = putN n ∧ -9223372036854775808 ≤ n ∧ n ≤ 9223372036854775807 := by
  obtain ⟨u, k, e1, e2, e3, e0, e4, _, e6⟩ := tkGo_back cs 0 0 n sz (by omega) h
  have en : n = unzig u := by simpa using e1
  have hr := unzig_ir u (by simpa using e6)
  refine ⟨k, by simpa using e2, e3, e0, ?_, by rw [en]; exact hr⟩
  unfold putN
  rw [e4, en, zig_unzig]
theorem tkGo_err : ∀ (cs : List UInt8) (i a : Nat), (tkGo i a cs).2.2 ≠ 0 → (tkGo i a cs).1 = 0 ∧ (tkGo i a cs).2.1 = 0
  | [], i, a, _ => ⟨rfl, rfl⟩
  | c :: cs, i, a, h => by
    simp only [tkGo] at h ⊢
    split
    · exact ⟨rfl, rfl⟩
    · rename_i h1
      rw [if_neg h1] at h
      split
      · rename_i h2
        rw [if_pos h2] at h
        exact tkGo_err cs _ _ h
      · rename_i h2
        rw [if_neg h2] at h
        split
        · exact ⟨rfl, rfl⟩
        · rename_i h3
          rw [if_neg h3] at h
          exact absurd rfl h

/-- Bits. -/
theorem or7 (i : Nat) (hi : i ≤ 9) (a c : Nat) (ha : a < 2 ^ (7 * i)) (hc : c * 2 ^ (7 * i) < 18446744073709551616) : bits .or .u64 (a : Int) ((c * 2 ^ (7 * i) : Nat) : Int) = ((a + c * 2 ^ (7 * i) : Nat) : Int) := by
  have hm : ∀ P : Nat, ((c * P : Nat) : Int) % (P : Int) = 0 := fun P => by
    rw [Int.natCast_mul]
    exact Int.mul_emod_left _ _
  rw [Int.natCast_add]
  have hcs : i = 0 ∨ i = 1 ∨ i = 2 ∨ i = 3 ∨ i = 4 ∨ i = 5 ∨ i = 6 ∨ i = 7 ∨ i = 8 ∨ i = 9 := by omega
  rcases hcs with rfl | rfl | rfl | rfl | rfl | rfl | rfl | rfl | rfl | rfl
  · exact u64_orv0 _ _ (by omega) (by simp at ha; omega) (by omega) (Int.emod_one _) (by omega)
  · exact u64_orv7 _ _ (by omega) (by omega) (by omega) (hm 128) (by omega)
  · exact u64_orv14 _ _ (by omega) (by omega) (by omega) (hm 16384) (by omega)
  · exact u64_orv21 _ _ (by omega) (by omega) (by omega) (hm 2097152) (by omega)
  · exact u64_orv28 _ _ (by omega) (by omega) (by omega) (hm 268435456) (by omega)
  · exact u64_orv35 _ _ (by omega) (by omega) (by omega) (hm 34359738368) (by omega)
  · exact u64_orv42 _ _ (by omega) (by omega) (by omega) (hm 4398046511104) (by omega)
  · exact u64_orv49 _ _ (by omega) (by omega) (by omega) (hm 562949953421312) (by omega)
  · exact u64_orv56 _ _ (by omega) (by omega) (by omega) (hm 72057594037927936) (by omega)
  · exact u64_orv63 _ _ (by omega) (by omega) (by omega) (hm 9223372036854775808) (by omega)

end Go.Proofs.Ytfieoehchghiiaa
