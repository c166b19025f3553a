/-
  Numbers and texts as bytes (plain).
  Walks: bytes.turned, bytes.back.
  The walk of bytes.Take.
  The walk of bytes.Put.
  Walks: bytes.PutText, bytes.TakeText.
-/
import Derived.Test.YtfieoehchghiiaaS0
import Derived.Lib.VarintBits
import Derived.Laws.Bits64
import Derived.Test.YtfieoehchghiiaaL0
import Derived.Test.YtfieoehchghiiaaChecked
import Derived.Laws.Bits64b
import Derived.Test.YtfieoehchghiiaaVJ
import Derived.Laws.IdiomStrings
import Derived.Laws.BytesArg
import Derived.Test.YtfieoehchghiiaaSJ

namespace Go.Proofs.Ytfieoehchghiiaa
open Go.RowKit
set_option linter.unusedVariables false

/-- A number's turned form, and what it is one of. -/
def zig (n : Int) : Nat := if 0 ≤ n then (2 * n).toNat else (-2 * n - 1).toNat
def unzig (u : Nat) : Int := if u % 2 = 0 then ((u / 2 : Nat) : Int) else -((u / 2 : Nat) : Int) - 1
theorem unzig_zig (n : Int) : unzig (zig n) = n := by
  unfold zig unzig
  by_cases h : 0 ≤ n
  · rw [if_pos h, if_pos (by omega)]; omega
  · rw [if_neg h, if_neg (by omega)]; omega
theorem zig_unzig (u : Nat) : zig (unzig u) = u := by
  unfold zig unzig
  by_cases h : u % 2 = 0
  · rw [if_pos h, if_pos (by omega)]; omega
  · rw [if_neg h, if_neg (by omega)]; omega
theorem zig_lt (n : Int) (h1 : -9223372036854775808 ≤ n) (h2 : n ≤ 9223372036854775807) : zig n < 18446744073709551616 := by
  unfold zig
  split <;> omega
theorem unzig_ir (u : Nat) (h : u < 18446744073709551616) : -9223372036854775808 ≤ unzig u ∧ unzig u ≤ 9223372036854775807 := by
  unfold unzig
  split <;> omega

/-- A number's bytes. -/
def vby (u : Nat) : List UInt8 := if h : u < 128 then [UInt8.ofNat u] else UInt8.ofNat (u % 128 + 128) :: vby (u / 128)
termination_by u
decreasing_by omega
theorem vby_lt {u : Nat} (h : u < 128) : vby u = [UInt8.ofNat u] := by rw [vby, dif_pos h]
theorem vby_ge {u : Nat} (h : ¬ u < 128) : vby u = UInt8.ofNat (u % 128 + 128) :: vby (u / 128) := by rw [vby, dif_neg h]
def putN (n : Int) : List UInt8 := vby (zig n)
def putL (l : List Int) : List UInt8 := l.flatMap putN
theorem vby_len : ∀ (k u : Nat), u < 128 ^ (k + 1) → (vby u).length ≤ k + 1
  | 0, u, h => by rw [vby_lt (by simpa using h)]; simp
  | k + 1, u, h => by
    by_cases hu : u < 128
    · rw [vby_lt hu]; simp
    · rw [vby_ge hu, List.length_cons]
      have : u / 128 < 128 ^ (k + 1) := by
        rw [Nat.pow_succ] at h
        exact Nat.div_lt_of_lt_mul (by rw [Nat.mul_comm]; exact h)
      have := vby_len k _ this
      omega
theorem putN_len (n : Int) (h1 : -9223372036854775808 ≤ n) (h2 : n ≤ 9223372036854775807) : (putN n).length ≤ 10 := by
  have h := zig_lt n h1 h2
  exact vby_len 9 _ (by omega)

/-- What Take tells of bytes, i of them being behind it: a number, how many bytes it has, an error. -/
def tkGo : Nat → Nat → List UInt8 → Int × Int × Int
  | _, _, [] => (0, 0, 20)
  | i, u, c :: cs =>
    if i = 9 ∧ 1 < c.toNat then (0, 0, 21)
    else if 128 ≤ c.toNat then tkGo (i + 1) (u + c.toNat % 128 * 2 ^ (7 * i)) cs
    else if c.toNat = 0 ∧ 0 < i then (0, 0, 21)
    else (unzig (u + c.toNat % 128 * 2 ^ (7 * i)), ((i + 1 : Nat) : Int), 0)
def takeS (s : ByteArray) : Int × Int × Int := tkGo 0 0 s.data.toList

/-- What is put is taken. -/
theorem tkGo_vby : ∀ (d u i a : Nat) (rest : List UInt8), i + d = 9 → u < 2 ^ (64 - 7 * i) → (0 < i → 0 < u) → tkGo i a (vby u ++ rest) = (unzig (a + u * 2 ^ (7 * i)), ((i + (vby u).length : Nat) : Int), 0)
  | d, u, i, a, rest, hd, hu, h0 => by
    by_cases h : u < 128
    · have hc : (UInt8.ofNat u).toNat = u := by simp; omega
      rw [vby_lt h, List.singleton_append]
      simp only [tkGo, hc]
      rw [if_neg (by
        rintro ⟨rfl, h1⟩
        have : u < 2 ^ 1 := by simpa using hu
        omega), if_neg (by omega), if_neg (by omega), Nat.mod_eq_of_lt h]
      simp
    · have hc : (UInt8.ofNat (u % 128 + 128)).toNat = u % 128 + 128 := by simp; omega
      have hi : i ≠ 9 := by
        rintro rfl
        have : u < 2 ^ 1 := by simpa using hu
        omega
      rw [vby_ge h, List.cons_append]
      simp only [tkGo, hc]
      rw [if_neg (by omega), if_pos (by omega)]
      obtain ⟨d', rfl⟩ : ∃ d', d = d' + 1 := ⟨d - 1, by omega⟩
      have hu' : u / 128 < 2 ^ (64 - 7 * (i + 1)) := by
        have e : 64 - 7 * i = (64 - 7 * (i + 1)) + 7 := by omega
        rw [e, Nat.pow_add] at hu
        exact Nat.div_lt_of_lt_mul (by rw [Nat.mul_comm]; exact hu)
      rw [tkGo_vby d' (u / 128) (i + 1) _ rest (by omega) hu' (fun _ => by omega)]
      have e1 : (u % 128 + 128) % 128 = u % 128 := by omega
      have e2 : 2 ^ (7 * (i + 1)) = 128 * 2 ^ (7 * i) := by
        rw [show 7 * (i + 1) = 7 + 7 * i by omega, Nat.pow_add]
      rw [e1, e2]
      have e3 : a + u % 128 * 2 ^ (7 * i) + u / 128 * (128 * 2 ^ (7 * i)) = a + u * 2 ^ (7 * i) := by
        rw [Nat.add_assoc, ← Nat.mul_assoc, ← Nat.add_mul]
        congr 2
        omega
      rw [e3]
      simp only [Prod.mk.injEq, List.length_cons, and_true, true_and]
      omega
termination_by d u => u
decreasing_by omega
theorem take_put (n : Int) (h1 : -9223372036854775808 ≤ n) (h2 : n ≤ 9223372036854775807) (rest : List UInt8) : tkGo 0 0 (putN n ++ rest) = (n, ((putN n).length : Int), 0) := by
  unfold putN
  have h := zig_lt n h1 h2
  rw [tkGo_vby 9 _ 0 0 rest rfl (by omega) (fun h => by omega)]
  simp [unzig_zig]

/-- What is taken is what is put of it. -/
theorem tkGo_back : ∀ (cs : List UInt8) (i a : Nat) (n sz : Int), i ≤ 9 → tkGo i a cs = (n, sz, 0) → ∃ (u k : Nat), n = unzig (a + u * 2 ^ (7 * i)) ∧ sz = ((i + k : Nat) : Int) ∧ k ≤ cs.length ∧ 0 < k ∧ cs.take k = vby u ∧ (0 < i → 0 < u) ∧ u < 2 ^ (64 - 7 * i)
  | [], i, a, n, sz, _, h => by simp [tkGo] at h
  | c :: cs, i, a, n, sz, hi, h => by
    have hc8 : c.toNat < 256 := c.toNat_lt
    simp only [tkGo] at h
    by_cases h1 : i = 9 ∧ 1 < c.toNat
    · rw [if_pos h1] at h; simp at h
    · rw [if_neg h1] at h
      by_cases h2 : 128 ≤ c.toNat
      · rw [if_pos h2] at h
        have hi9 : i ≠ 9 := fun e => h1 ⟨e, by omega⟩
        obtain ⟨u, k, e1, e2, e3, e0, e4, e5, e6⟩ := tkGo_back cs (i + 1) _ n sz (by omega) h
        have hu0 := e5 (by omega)
        have g1 : sz = ((i + (k + 1) : Nat) : Int) := by rw [e2]; congr 1; omega
        have g2 : k + 1 ≤ (c :: cs).length := by rw [List.length_cons]; omega
        refine ⟨c.toNat % 128 + 128 * u, k + 1, ?_, g1, g2, by omega, ?_, fun _ => by omega, ?_⟩
        · rw [e1]
          congr 1
          rw [show 7 * (i + 1) = 7 + 7 * i by omega, Nat.pow_add, Nat.add_mul, Nat.add_assoc]
          congr 2
          rw [show (2 : Nat) ^ 7 = 128 from rfl, ← Nat.mul_assoc, Nat.mul_comm u 128]
        · have q0 : ¬ c.toNat % 128 + 128 * u < 128 := by omega
          rw [List.take_succ_cons, e4, vby_ge q0]
          have q1 : (c.toNat % 128 + 128 * u) % 128 + 128 = c.toNat := by omega
          have q2 : (c.toNat % 128 + 128 * u) / 128 = u := by omega
          rw [q1, q2]
          simp
        · have e : 64 - 7 * i = (64 - 7 * (i + 1)) + 7 := by omega
          rw [e, Nat.pow_add]
          have : u + 1 ≤ 2 ^ (64 - 7 * (i + 1)) := e6
          have h7 : (2 : Nat) ^ 7 = 128 := rfl
          rw [h7]
          have := Nat.mul_le_mul_right 128 this
          omega
      · rw [if_neg h2] at h
        by_cases h3 : c.toNat = 0 ∧ 0 < i
        · rw [if_pos h3] at h; simp at h
        · rw [if_neg h3] at h
          simp only [Prod.mk.injEq, and_true] at h
          have hm : c.toNat % 128 = c.toNat := Nat.mod_eq_of_lt (by omega)
          rw [hm] at h
          refine ⟨c.toNat, 1, h.1.symm, h.2.symm, by simp, by omega, ?_, fun hi0 => by omega, ?_⟩
          · rw [vby_lt (by omega)]
            simp
          · by_cases hi9 : i = 9
            · subst hi9
              have : c.toNat < 2 ^ 1 := by omega
              simpa using this
            · have : 2 ^ 7 ≤ 2 ^ (64 - 7 * i) := Nat.pow_le_pow_right (by omega) (by omega)
              have h7 : (2 : Nat) ^ 7 = 128 := rfl
              omega
theorem take_back {cs : List UInt8} {n sz : Int} (h : tkGo 0 0 cs = (n, sz, 0)) : ∃ k : Nat, sz = (k : Int) ∧ k ≤ cs.length ∧ 0 < k ∧ cs.take k = putN n ∧ -9223372036854775808 ≤ n ∧ n ≤ 9223372036854775807 := by
  obtain ⟨u, k, e1, e2, e3, e0, e4, _, e6⟩ := tkGo_back cs 0 0 n sz (by omega) h
  have en : n = unzig u := by simpa using e1
  have hr := unzig_ir u (by simpa using e6)
  refine ⟨k, by simpa using e2, e3, e0, ?_, by rw [en]; exact hr⟩
  unfold putN
  rw [e4, en, zig_unzig]
theorem tkGo_err : ∀ (cs : List UInt8) (i a : Nat), (tkGo i a cs).2.2 ≠ 0 → (tkGo i a cs).1 = 0 ∧ (tkGo i a cs).2.1 = 0
  | [], i, a, _ => ⟨rfl, rfl⟩
  | c :: cs, i, a, h => by
    simp only [tkGo] at h ⊢
    split
    · exact ⟨rfl, rfl⟩
    · rename_i h1
      rw [if_neg h1] at h
      split
      · rename_i h2
        rw [if_pos h2] at h
        exact tkGo_err cs _ _ h
      · rename_i h2
        rw [if_neg h2] at h
        split
        · exact ⟨rfl, rfl⟩
        · rename_i h3
          rw [if_neg h3] at h
          exact absurd rfl h

/-- Bits. -/
theorem or7 (i : Nat) (hi : i ≤ 9) (a c : Nat) (ha : a < 2 ^ (7 * i)) (hc : c * 2 ^ (7 * i) < 18446744073709551616) : bits .or .u64 (a : Int) ((c * 2 ^ (7 * i) : Nat) : Int) = ((a + c * 2 ^ (7 * i) : Nat) : Int) := by
  have hm : ∀ P : Nat, ((c * P : Nat) : Int) % (P : Int) = 0 := fun P => by
    rw [Int.natCast_mul]
    exact Int.mul_emod_left _ _
  rw [Int.natCast_add]
  have hcs : i = 0 ∨ i = 1 ∨ i = 2 ∨ i = 3 ∨ i = 4 ∨ i = 5 ∨ i = 6 ∨ i = 7 ∨ i = 8 ∨ i = 9 := by omega
  rcases hcs with rfl | rfl | rfl | rfl | rfl | rfl | rfl | rfl | rfl | rfl
  · exact u64_orv0 _ _ (by omega) (by simp at ha; omega) (by omega) (Int.emod_one _) (by omega)
  · exact u64_orv7 _ _ (by omega) (by omega) (by omega) (hm 128) (by omega)
  · exact u64_orv14 _ _ (by omega) (by omega) (by omega) (hm 16384) (by omega)
  · exact u64_orv21 _ _ (by omega) (by omega) (by omega) (hm 2097152) (by omega)
  · exact u64_orv28 _ _ (by omega) (by omega) (by omega) (hm 268435456) (by omega)
  · exact u64_orv35 _ _ (by omega) (by omega) (by omega) (hm 34359738368) (by omega)
  · exact u64_orv42 _ _ (by omega) (by omega) (by omega) (hm 4398046511104) (by omega)
  · exact u64_orv49 _ _ (by omega) (by omega) (by omega) (hm 562949953421312) (by omega)
  · exact u64_orv56 _ _ (by omega) (by omega) (by omega) (hm 72057594037927936) (by omega)
  · exact u64_orv63 _ _ (by omega) (by omega) (by omega) (hm 9223372036854775808) (by omega)

end Go.Proofs.Ytfieoehchghiiaa

namespace Go.Proofs.Ytfieoehchghiiaa
open Go.RowKit
set_option linter.unusedVariables false

theorem xor_ones_u (a : Nat) (h : a < 18446744073709551616) : bits .xor .u64 (a : Int) 18446744073709551615 = ((18446744073709551615 - a : Nat) : Int) := by
  have h1 := bits_xor_u64_nat a 18446744073709551615 h (by omega)
  have e : a ^^^ 18446744073709551615 = 18446744073709551615 - a := by
    have h2 : (BitVec.ofNat 64 a ^^^ BitVec.allOnes 64).toNat = (~~~ BitVec.ofNat 64 a).toNat := by rw [BitVec.xor_allOnes]
    rw [BitVec.toNat_xor, BitVec.toNat_not, BitVec.toNat_ofNat, BitVec.toNat_allOnes] at h2
    rw [Nat.mod_eq_of_lt (by omega)] at h2
    have h3 : (2 : Nat) ^ 64 - 1 = 18446744073709551615 := by decide
    rw [h3] at h2
    exact h2
  rw [e] at h1
  exact h1
theorem xor_zero_u (a : Nat) (h : a < 18446744073709551616) : bits .xor .u64 (a : Int) 0 = (a : Int) := by
  have h1 := bits_xor_u64_nat a 0 h (by omega)
  rw [Nat.xor_zero] at h1
  exact h1

theorem wrap_i64B (n : Int) : IntKind.i64.wrap n = wrap64 n := by
  unfold wrap64
  simp [IntKind.wrap, IntKind.bits, IntKind.signed]
  try (split <;> omega)
theorem xor_zero_i (a : Nat) (h : a < 9223372036854775808) : bits .xor .i64 (a : Int) 0 = (a : Int) := by
  have e : (BitVec.ofInt 64 (a : Int) ^^^ BitVec.ofInt 64 0).toNat = a := by
    rw [BitVec.toNat_xor, BitVec.ofInt_natCast, BitVec.toNat_ofNat, Nat.mod_eq_of_lt (by omega)]
    exact Nat.xor_zero a
  show IntKind.i64.wrap ((BitVec.ofInt 64 (a : Int) ^^^ BitVec.ofInt 64 0).toNat : Int) = _
  rw [e, wrap_i64B]
  unfold wrap64
  omega
theorem xor_ones_i (a : Nat) (h : a < 9223372036854775808) : bits .xor .i64 (a : Int) (-1) = -(a : Int) - 1 := by
  have e : (BitVec.ofInt 64 (a : Int) ^^^ BitVec.ofInt 64 (-1)).toNat = 18446744073709551615 - a := by
    have h1 : BitVec.ofInt 64 (-1) = BitVec.allOnes 64 := by decide +kernel
    rw [h1, BitVec.xor_allOnes, BitVec.toNat_not, BitVec.ofInt_natCast, BitVec.toNat_ofNat, Nat.mod_eq_of_lt (by omega)]
  show IntKind.i64.wrap ((BitVec.ofInt 64 (a : Int) ^^^ BitVec.ofInt 64 (-1)).toNat : Int) = _
  rw [e, wrap_i64B]
  unfold wrap64
  omega
theorem turned_bits (n : Int) (h1 : -9223372036854775808 ≤ n) (h2 : n ≤ 9223372036854775807) :
    bits .xor .u64 (IntKind.u64.wrap (IntKind.u64.wrap n * 2)) (IntKind.u64.wrap (n / 9223372036854775808)) = (zig n : Int) := by
  rw [IntKind.wrap_u64, IntKind.wrap_u64, IntKind.wrap_u64]
  unfold zig
  by_cases h : 0 ≤ n
  · rw [if_pos h]
    have e1 : n % 18446744073709551616 * 2 % 18446744073709551616 = ((2 * n).toNat : Int) := by omega
    have e2 : n / 9223372036854775808 % 18446744073709551616 = 0 := by omega
    rw [e1, e2, xor_zero_u _ (by omega)]
  · rw [if_neg h]
    have e1 : n % 18446744073709551616 * 2 % 18446744073709551616 = ((2 * n + 18446744073709551616).toNat : Int) := by omega
    have e2 : n / 9223372036854775808 % 18446744073709551616 = 18446744073709551615 := by omega
    rw [e1, e2, xor_ones_u _ (by omega)]
    omega
theorem back_bits (u : Nat) (h : u < 18446744073709551616) : bits .xor .i64 ((u : Int) / 2) (wrap64 (-wrap64 (bits .and .u64 (u : Int) 1))) = unzig u := by
  have ha := bits_and_u64_nat u 1 h (by omega)
  rw [Nat.and_one_is_mod] at ha
  have ha' : bits .and .u64 (u : Int) 1 = ((u % 2 : Nat) : Int) := ha
  rw [ha']
  have e2 : (u : Int) / 2 = ((u / 2 : Nat) : Int) := by omega
  rw [e2]
  unfold unzig
  by_cases h0 : u % 2 = 0
  · rw [if_pos h0, h0]
    have e : wrap64 (-wrap64 ((0 : Nat) : Int)) = 0 := by decide +kernel
    rw [e, xor_zero_i _ (by omega)]
  · rw [if_neg h0, show u % 2 = 1 by omega]
    have e : wrap64 (-wrap64 ((1 : Nat) : Int)) = -1 := by decide +kernel
    rw [e, xor_ones_i _ (by omega)]

set_option maxHeartbeats 400000 in
theorem turned_c (n : Int) (h1 : -9223372036854775808 ≤ n) (h2 : n ≤ 9223372036854775807) (w : World) : Calls Try.prog 81 #[.int .i64 n] w fun e w' => e = .returned (.int .u64 (zig n)) ∧ w = w' := by
  go_enter Try.func81, Try.ntmps81
  go_wp2_with fail
  go_ret
  exact ⟨ret_int (turned_bits n h1 h2), rfl⟩

set_option maxHeartbeats 400000 in
theorem back_c (u : Nat) (h : u < 18446744073709551616) (w : World) : Calls Try.prog 80 #[.int .u64 u] w fun e w' => e = .returned (.int .i64 (unzig u)) ∧ w = w' := by
  go_enter Try.func80, Try.ntmps80
  go_wp2_with fail
  go_ret
  exact ⟨ret_int (back_bits u h), rfl⟩

end Go.Proofs.Ytfieoehchghiiaa

namespace Go.Proofs.Ytfieoehchghiiaa
open Go.RowKit
set_option linter.unusedVariables false

theorem u8_and128 (c : Nat) (h : c < 256) : bits .and .u8 (c : Int) 128 = if c < 128 then 0 else 128 := by
  have : ∀ n : Fin 256, bits .and .u8 (n.val : Int) 128 = if n.val < 128 then 0 else 128 := by decide +kernel
  exact this ⟨c, h⟩
theorem u8_andNot128 (c : Nat) (h : c < 256) : bits .andNot .u8 (c : Int) 128 = ((c % 128 : Nat) : Int) := by
  have : ∀ n : Fin 256, bits .andNot .u8 (n.val : Int) 128 = ((n.val % 128 : Nat) : Int) := by decide +kernel
  exact this ⟨c, h⟩

theorem take_or (k U c : Nat) (hk : k ≤ 9) (hc : c < 256) (h9 : k = 9 → c ≤ 1) (hU : U < 2 ^ (7 * k)) :
    bits .or .u64 (U : Int) (IntKind.u64.wrap (IntKind.u64.wrap (bits .andNot .u8 (c : Int) 128) * 2 ^ (7 * k))) = ((U + c % 128 * 2 ^ (7 * k) : Nat) : Int) ∧ U + c % 128 * 2 ^ (7 * k) < 18446744073709551616 ∧ U + c % 128 * 2 ^ (7 * k) < 2 ^ (7 * (k + 1)) := by
  have hm : c % 128 < 128 := Nat.mod_lt _ (by omega)
  have hP : (2 : Nat) ^ (7 * (k + 1)) = 128 * 2 ^ (7 * k) := by rw [show 7 * (k + 1) = 7 + 7 * k by omega, Nat.pow_add]
  have hb : U + c % 128 * 2 ^ (7 * k) < 2 ^ (7 * (k + 1)) := by
    rw [hP]
    have : (c % 128 + 1) * 2 ^ (7 * k) ≤ 128 * 2 ^ (7 * k) := Nat.mul_le_mul_right _ (by omega)
    rw [Nat.add_mul] at this
    omega
  have hb2 : U + c % 128 * 2 ^ (7 * k) < 18446744073709551616 := by
    by_cases h : k = 9
    · subst h
      have := h9 rfl
      have e : c % 128 = c := Nat.mod_eq_of_lt (by omega)
      rw [e]
      have h63 : (2 : Nat) ^ (7 * 9) = 9223372036854775808 := by decide +kernel
      clear hb hP hm
      rw [h63] at hU ⊢
      clear h63
      omega
    · have : 2 ^ (7 * (k + 1)) ≤ 2 ^ 63 := Nat.pow_le_pow_right (by omega) (by omega)
      have h63 : (2 : Nat) ^ 63 = 9223372036854775808 := by decide +kernel
      omega
  refine ⟨?_, hb2, hb⟩
  have hx : c % 128 * 2 ^ (7 * k) < 18446744073709551616 := by omega
  rw [u8_andNot128 c hc, IntKind.wrap_u64, IntKind.wrap_u64]
  have e1 : ((c % 128 : Nat) : Int) % 18446744073709551616 = ((c % 128 : Nat) : Int) := by omega
  have e2 : ((c % 128 : Nat) : Int) * 2 ^ (7 * k) = ((c % 128 * 2 ^ (7 * k) : Nat) : Int) := by
    rw [Int.natCast_mul, Int.natCast_pow]
    rfl
  rw [e1, e2]
  have e3 : ((c % 128 * 2 ^ (7 * k) : Nat) : Int) % 18446744073709551616 = ((c % 128 * 2 ^ (7 * k) : Nat) : Int) := by omega
  rw [e3]
  exact or7 k hk U (c % 128) hU hx

set_option maxHeartbeats 2000000 in
theorem Take_c (s : ByteArray) (hs : s.size ≤ 140737488355328) (w : World) : Calls Try.prog 45 #[.string s] w fun e w' => e = .returned (.tuple #[.int .i64 (takeS s).1, .int .i64 (takeS s).2.1, .int .i64 (takeS s).2.2]) ∧ w = w' := by
  go_enter Try.func45, Try.ntmps45
  go_wp2_with fail
  go_step3
  go_wp2_with fail
  go_step3
  go_wp2_with fail
  go_loop [5, 6] (fun u q => ∃ k U : Nat, u = .int .u64 U ∧ q = .int .i64 k ∧ k ≤ 9 ∧ k ≤ s.size ∧ U < 2 ^ (7 * k) ∧ tkGo k U (s.data.toList.drop k) = takeS s) (fun _ q => s.size - (intOf q).toNat)
  case atStart => exact ⟨0, 0, rfl, rfl, by omega, Nat.zero_le _, by decide, rfl⟩
  case round =>
    obtain ⟨k, U, rfl, rfl, hk9, hks, hU, hg⟩ := hrel
    by_cases hlt : k < s.size
    · have hd : s.data.toList.drop k = s[k] :: s.data.toList.drop (k + 1) := List.drop_eq_getElem_cons (by rw [← Lib.size_eq]; exact hlt)
      rw [hd] at hg
      have hc8 : (s[k]).toNat < 256 := (s[k]).toNat_lt
      generalize hcc : s[k] = c at *
      generalize htl : s.data.toList.drop (k + 1) = tl at *
      have HTL := Lib.hid htl
      clear htl hd
      simp only [tkGo] at hg
      have hand := u8_and128 c.toNat hc8
      by_cases h9 : k = 9
      · subst h9
        by_cases h1 : 1 < c.toNat
        · rw [if_pos ⟨rfl, h1⟩] at hg
          have HR := Lib.hid hg
          have d1 : decide ((1 : Int) < (c.toNat : Int)) = true := by rw [decide_eq_true_eq]; omega
          clear hg hand hU
          go_wp2_with fail
          first | go_ret3 | (rw [Exit.noGoto_ret]; go_ret3)
          rw [← HR.out]
          exact ⟨rfl, rfl⟩
        · obtain ⟨ho, hv1, hv2⟩ := take_or 9 U c.toNat (Nat.le_refl _) hc8 (fun _ => by omega) hU
          rw [if_neg (by omega), if_neg (by omega)] at hg
          rw [if_pos (by omega)] at hand
          have d1 : decide ((1 : Int) < (c.toNat : Int)) = false := by rw [decide_eq_false_iff_not]; omega
          have hpow : (2 : Int) ^ (7 * 9) = 9223372036854775808 := by decide +kernel
          rw [hpow] at ho
          generalize U + c.toNat % 128 * 2 ^ (7 * 9) = V at *
          by_cases h0 : c.toNat = 0
          · rw [if_pos ⟨h0, by omega⟩] at hg
            have HR := Lib.hid hg
            have d0 : ((c.toNat : Int) == 0) = true := by rw [beq_iff_eq]; omega
            clear hg hU
            go_wp2_with fail
            first | go_ret3 | (rw [Exit.noGoto_ret]; go_ret3)
            rw [← HR.out]
            exact ⟨rfl, rfl⟩
          · rw [if_neg (by omega)] at hg
            have HR := Lib.hid hg
            have d0 : ((c.toNat : Int) == 0) = false := by rw [beq_eq_false_iff_ne]; omega
            clear hg hU
            go_wp2_with fail
            refine (back_c V hv1 _).mono ?_
            rintro e w1 ⟨rfl, rfl⟩
            go_wp2_with fail
            first | go_ret3 | (rw [Exit.noGoto_ret]; go_ret3)
            rw [← HR.out]
            exact ⟨rfl, rfl⟩
      · obtain ⟨ho, hv1, hv2⟩ := take_or k U c.toNat hk9 hc8 (fun h => absurd h h9) hU
        rw [if_neg (fun h => h9 h.1)] at hg
        have d9 : ((k : Int) == 9) = false := by rw [beq_eq_false_iff_ne]; omega
        generalize U + c.toNat % 128 * 2 ^ (7 * k) = V at *
        have HO := Lib.hid ho
        by_cases h2 : 128 ≤ c.toNat
        · rw [if_pos h2] at hg
          rw [if_neg (by omega)] at hand
          have HR := Lib.hid hg
          have HU := Lib.hid hv2
          clear hg hU hv2 ho
          go_wp2_with fail
          go_round
          case rel => exact ⟨k + 1, V, by rw [HO.out], by go_num, by omega, by omega, HU.out, by rw [HTL.out]; exact HR.out⟩
          case measure => simp [intOf]; omega
        · rw [if_neg h2] at hg
          rw [if_pos (by omega)] at hand
          by_cases h0 : c.toNat = 0 ∧ 0 < k
          · rw [if_pos h0] at hg
            have HR := Lib.hid hg
            have d0 : ((c.toNat : Int) == 0) = true := by rw [beq_iff_eq]; omega
            have dk : (1 : Int) < (k : Int) + 1 := by omega
            clear hg hU hv2 ho
            go_wp2_with fail
            first | go_ret3 | (rw [Exit.noGoto_ret]; go_ret3)
            rw [← HR.out]
            exact ⟨rfl, rfl⟩
          · rw [if_neg h0] at hg
            have HR := Lib.hid hg
            have dd : (((c.toNat : Int) == 0) = false) ∨ (((c.toNat : Int) == 0) = true ∧ ¬ (1 : Int) < (k : Int) + 1) := by
              by_cases hz : c.toNat = 0
              · right; exact ⟨by rw [beq_iff_eq]; omega, by omega⟩
              · left; rw [beq_eq_false_iff_ne]; omega
            clear hg hU hv2 h0
            rcases dd with d0 | ⟨d0, dk⟩
            all_goals
              go_wp2_with fail
              refine (back_c V hv1 _).mono ?_
              rintro e w1 ⟨rfl, rfl⟩
              go_wp2_with fail
              first | go_ret3 | (rw [Exit.noGoto_ret]; go_ret3)
              rw [← HR.out]
              exact ⟨rfl, rfl⟩
    · have hd : s.data.toList.drop k = [] := List.drop_of_length_le (by rw [← Lib.size_eq]; omega)
      rw [hd] at hg
      simp only [tkGo] at hg
      have HR := Lib.hid hg
      clear hg hd hU
      go_wp2_with fail
      first | go_ret3 | (rw [Exit.noGoto_ret]; go_ret3)
      rw [← HR.out]
      exact ⟨rfl, rfl⟩

end Go.Proofs.Ytfieoehchghiiaa

namespace Go.Proofs.Ytfieoehchghiiaa
open Go.RowKit
set_option linter.unusedVariables false

theorem info_u8B : (Try.prog.info? 5).map (fun i => (i.zero, i.size, i.bytes)) = some (some (.int .u8 0), 1, 1) := by kernel_rfl
def byteV (b : UInt8) : Value := .int .u8 b.toNat

theorem conv_own {w : World} {base : Nat} {v : Value} {m : Nat} {bs : List UInt8} (h : w.ownsRow base 5 1 v m (bs.map byteV)) : (convert 108 9 v).run Try.prog w = .ok (.string ⟨bs.toArray⟩) w := by
  obtain ⟨h1, h2⟩ := h
  rw [List.length_map, Nat.mul_one] at h1
  rcases h2 with ⟨rfl, rfl⟩ | ⟨g, cap, cur, rfl, hb, hg, hn, hc, hs, ht⟩
  · obtain rfl : bs = [] := List.length_eq_zero_iff.1 h1
    rw [run_convert_bytes_nil w 108 5 Try.underlying108 Try.underlying5 0 0 9 Try.underlying9]
    rfl
  · subst h1
    refine run_convert_bytes_back w 108 9 5 ⟨g, 0, none⟩ cap bs Try.underlying108 Try.underlying5 Try.underlying9 (fun j hj => ?_)
    rw [Addr.add_lit, Nat.zero_add, cell_of_row w g j cur 5 (0, 0) hg]
    have := congrArg (fun q => q[j]?) ht
    simp only [List.getElem?_take] at this
    rw [if_pos (by omega), List.getElem?_map, List.getElem?_eq_getElem hj] at this
    simpa [byteV] using this
theorem or_u8 (U : Nat) : bits .or .u8 ((U : Int) % 256) 128 = ((U % 128 + 128 : Nat) : Int) := by
  have : ∀ n : Fin 256, bits .or .u8 (n.val : Int) 128 = ((n.val % 128 + 128 : Nat) : Int) := by decide +kernel
  have h := this ⟨U % 256, Nat.mod_lt _ (by omega)⟩
  have e : (((U % 256 : Nat)) : Int) = (U : Int) % 256 := by omega
  rw [← e]
  rw [h]
  show ((U % 256 % 128 + 128 : Nat) : Int) = _
  rw [Nat.mod_mod_of_dvd U (show 128 ∣ 256 by decide)]
theorem wrap_u8B (n : Int) : IntKind.u8.wrap n = n % 256 := by simp [IntKind.wrap, IntKind.bits, IntKind.signed]
theorem cell_one_newB (w : World) (a : Value) (t : TypeId) : ∀ j u, [a][j]? = some u → (w.alloc (.cells #[a] t)).cell? ((⟨w.heap.size, 0, none⟩ : Addr).add j) = some u := by
  intro j u hj
  have hj4 : j < 1 := (List.getElem?_eq_some_iff.1 hj).1
  rw [Addr.add_lit, Nat.zero_add, (Blk.new w #[a] t).cell j]
  simpa using hj

structure PutRel (bs : List UInt8) (w : World) (s : Value) (wr : World) : Prop where
  below : Below w.heap.size w wr
  own : wr.ownsRow w.heap.size 5 1 s bs.length (bs.map byteV)
theorem PutRel.snoc {Q : List UInt8} {w w4 : World} {v' : Value} {ql : Nat} {qs : List Value} (hb : Below w.heap.size w w4) (hql : Q.length = ql) (hqs : Q.map byteV = qs) (c : Nat) (hc : c < 256) (h : w4.ownsRow w.heap.size 5 1 v' (ql + 1) (qs ++ [.int .u8 (c : Int)])) :
    PutRel (Q ++ [UInt8.ofNat c]) w v' w4 := by
  refine ⟨hb, ?_⟩
  have e : byteV (UInt8.ofNat c) = .int .u8 (c : Int) := by
    unfold byteV
    have : (UInt8.ofNat c).toNat = c := by simp; omega
    rw [this]
  rw [List.length_append, List.map_append, hql, hqs, List.map_cons, List.map_nil, e]
  exact h
theorem putL_take (l : List Int) (k : Nat) (hk : k < l.length) : putL (l.take (k + 1)) = putL (l.take k) ++ putN l[k] := by
  rw [putL, putL, List.take_succ_eq_append_getElem hk, List.flatMap_append, List.flatMap_cons, List.flatMap_nil, List.append_nil]
theorem putL_len (l : List Int) (hr : ∀ z ∈ l, -9223372036854775808 ≤ z ∧ z ≤ 9223372036854775807) : (putL l).length ≤ 10 * l.length := by
  induction l with
  | nil => simp [putL]
  | cons z l ih =>
    have h1 := ih fun y hy => hr y (by simp [hy])
    have h2 := putN_len z (hr z (by simp)).1 (hr z (by simp)).2
    have e : putL (z :: l) = putN z ++ putL l := rfl
    rw [e, List.length_append, List.length_cons]
    omega

set_option maxHeartbeats 4000000 in
theorem PutB_c (l : List Int) (n : Nat) (v : Value) (B : Nat) (w : World) (h : Sl w B 1 v n (l.map (Value.int .i64))) (hn : l.length = n) (hB : B ≤ w.heap.size) (hr : ∀ z ∈ l, -9223372036854775808 ≤ z ∧ z ≤ 9223372036854775807) (hl : n ≤ 1000) :
    Calls Try.prog 51 #[v] w fun e w' => e = .returned (.string ⟨(putL l).toArray⟩) ∧ Below w.heap.size w w' := by
  have HS := Lib.hid h
  have HR := Lib.hid hr
  have HN := Lib.hid hn
  obtain ⟨_, a, cap, rfl, hcap, hmx, hrest⟩ := id h
  clear h hr hn hrest
  rename_i hx
  clear hx
  have HPL : Hid (∀ k, k ≤ n → (putL (l.take k)).length ≤ 10 * n) := fun k hk => by
    have := putL_len (l.take k) (fun y hy => HR.out y (List.mem_of_mem_take hy))
    have h2 := List.length_take_le k l
    have h3 := HN.out
    have h4 : (l.take k).length ≤ n := by rw [List.length_take]; omega
    omega
  obtain ⟨i0, hi, hz0, hz1, hz2⟩ := info_parts info_u8B
  go_enter Try.func51, Try.ntmps51
  go_wp2_with fail
  go_loopw [3, 9] (fun s q wr => ∃ k : Nat, q = .int .i64 k ∧ k ≤ n ∧ PutRel (putL (l.take k)) w s wr) (fun _ q _ => n - (intOf q).toNat)
  case atStart => exact ⟨0, rfl, Nat.zero_le _, ⟨Below.refl _ _, World.ownsRow_nil _ _ _ _⟩⟩
  case round =>
    obtain ⟨k, rfl, hk, hrel⟩ := hrel
    by_cases hlt : k < n
    · obtain ⟨b, off, cp, e1, hb, hkl, p0⟩ := (HS.out.below (hrel.below.mono hB)).int k hlt
      simp only [Value.slice.injEq, true_and] at e1
      obtain ⟨rfl, rfl⟩ := e1
      have hz := HR.out _ (List.getElem_mem hkl)
      have HTK := Lib.hid (putL_take l k hkl)
      have hbd := HPL.out k hk
      generalize l[k] = z at *
      generalize putL (l.take k) = P at *
      have hzl := zig_lt z hz.1 hz.2
      have hpn := putN_len z hz.1 hz.2
      have HPN : Hid (putN z = [] ++ vby (zig z)) := rfl
      go_wp2_with fail
      refine (turned_c z hz.1 hz.2 _).mono ?_
      rintro e w1 ⟨rfl, rfl⟩
      go_wp2_with fail
      generalize putN z = PN at *
      go_loopw [3, 6] (fun s u wx => ∃ (U : Nat) (X : List UInt8), u = .int .u64 U ∧ U < 18446744073709551616 ∧ PutRel (P ++ X) w s wx ∧ PN = X ++ vby U) (fun _ u _ => (intOf u).toNat)
      case atStart => exact ⟨zig z, [], rfl, hzl, by rw [List.append_nil]; exact hrel, HPN.out⟩
      case round =>
        obtain ⟨U, X, rfl, hU, hin, hX⟩ := hrel
        have hown := hin.own
        have hbel := hin.below
        have hXl : X.length + (vby U).length ≤ 10 := by rw [← List.length_append, ← hX]; exact hpn
        have hPX : (P ++ X).length ≤ 10 * n + 10 := by rw [List.length_append]; omega
        have hww := hbel.size
        generalize hQ : P ++ X = Q at *
        have HQ := Lib.hid hQ
        have HX := Lib.hid hX
        clear hQ hX hin
        generalize hqs : Q.map byteV = qs at *
        have HQS := Lib.hid hqs
        generalize hql : Q.length = ql at *
        have HQL := Lib.hid hql
        clear hqs hql
        by_cases hU8 : 128 ≤ U
        · have d1 : (128 : Int) ≤ (U : Int) := by omega
          have hor := or_u8 U
          have hor2 : bits .or .u8 (IntKind.u8.wrap (U : Int)) 128 = ((U % 128 + 128 : Nat) : Int) := by rw [wrap_u8B]; exact hor
          have HV : Hid (vby U = UInt8.ofNat (U % 128 + 128) :: vby (U / 128)) := vby_ge (by omega)
          go_wp2_with (at_builtin; refine wpList_append_own _ rfl _ _ 108 rfl w.heap.size 5 i0 (.int .u8 0) 1 1 Try.underlying108 hi hz0 hz1 hz2 rfl (by decide) u3 ql qs rfl (hown.alloc _) ⟨wr.heap.size, 0, none⟩ 1 1 [.int .u8 ((U % 128 + 128 : Nat) : Int)] rfl rfl (cell_one_newB _ _ _) (by simp [Value.oneCell']) (by unfold maxLen; omega) (by omega) (by simp; omega) ?_; intro v' w4 hown4 hgrow4 _)
          have hB4 : Below w.heap.size w w4 := (hbel.alloc hww _).grown hgrow4 (by simp; omega) (fun q hq => (hown.lt q hq).1)
          have hsn := PutRel.snoc hB4 HQL.out HQS.out (U % 128 + 128) (by omega) hown4
          go_roundw
          case rel =>
            refine ⟨U / 128, X ++ [UInt8.ofNat (U % 128 + 128)], by congr 1, by omega, ?_, ?_⟩
            · rw [← List.append_assoc, HQ.out]
              exact hsn
            · rw [HX.out, HV.out, List.append_assoc]
              rfl
          case measure =>
            have : U / 128 < U := Nat.div_lt_self (by omega) (by decide)
            simp [intOf]
            omega
        · have d1 : ¬ (128 : Int) ≤ (U : Int) := by omega
          have hmo : (U : Int) % 256 = (U : Int) := by omega
          have hV : vby U = [UInt8.ofNat U] := vby_lt (by omega)
          rw [hV] at HX
          go_wp2_with (at_builtin; refine wpList_append_own _ rfl _ _ 108 rfl w.heap.size 5 i0 (.int .u8 0) 1 1 Try.underlying108 hi hz0 hz1 hz2 rfl (by decide) u3 ql qs rfl (hown.alloc _) ⟨wr.heap.size, 0, none⟩ 1 1 [.int .u8 (U : Int)] rfl rfl (by first | exact cell_one_newB _ _ _ | (rw [← hmo]; exact cell_one_newB _ _ _)) (by simp [Value.oneCell']) (by unfold maxLen; omega) (by omega) (by simp; omega) ?_; intro v' w4 hown4 hgrow4 _)
          have hB4 : Below w.heap.size w w4 := (hbel.alloc hww _).grown hgrow4 (by simp; omega) (fun q hq => (hown.lt q hq).1)
          have hsn := PutRel.snoc hB4 HQL.out HQS.out U (by omega) hown4
          go_roundw
          case rel =>
            refine ⟨k + 1, by go_num, by omega, ?_⟩
            rw [HTK.out, HX.out, ← List.append_assoc, HQ.out]
            exact hsn
          case measure => simp [intOf]; omega
    · obtain rfl : k = n := by omega
      have htl : l.take k = l := List.take_of_length_le (by have := HN.out; omega)
      rw [htl] at hrel
      have hconv := conv_own hrel.own
      have hb := hrel.below
      clear hrel htl
      go_wp2_with fail
      go_ret
      exact ⟨rfl, hb⟩

end Go.Proofs.Ytfieoehchghiiaa

namespace Go.Proofs.Ytfieoehchghiiaa
open Go.RowKit
set_option linter.unusedVariables false

theorem Sl.oneB {w : World} {b : Nat} {t : TypeId} {x : Value} (h : Blk w b t #[x]) : Sl w w.heap.size 1 (.slice (some ⟨b, 0, none⟩) 1 1) 1 [x] :=
  ⟨rfl, _, 1, rfl, Nat.le_refl _, by unfold maxLen; omega, .inr ⟨b, 0, rfl, h.lt, fun j hj => by rw [Nat.zero_add, h.cell]; simp⟩⟩

/-- A text's bytes. -/
def txtL (u : ByteArray) : List UInt8 := putN (u.size : Int) ++ u.data.toList
/-- What TakeText tells: a text, how many bytes it has, an error. -/
def takeT (s : ByteArray) : ByteArray × Int × Int :=
  if (takeS s).2.2 ≠ 0 then (.empty, 0, (takeS s).2.2)
  else if (takeS s).1 < 0 then (.empty, 0, 21)
  else if 65536 < (takeS s).1 then (.empty, 0, 3)
  else if (s.size : Int) < (takeS s).2.1 + (takeS s).1 then (.empty, 0, 20)
  else (s.extract (takeS s).2.1.toNat ((takeS s).2.1.toNat + (takeS s).1.toNat), (takeS s).2.1 + (takeS s).1, 0)

set_option maxHeartbeats 1000000 in
theorem PutText_c (u : ByteArray) (hu : u.size ≤ 65536) (w : World) : Calls Try.prog 52 #[.string u] w fun e w' => e = .returned (.tuple #[.string ⟨(txtL u).toArray⟩, .int .i64 0]) ∧ Below w.heap.size w w' := by
  have hg : ¬ (65536 : Int) < (u.size : Int) := by omega
  have hr : ∀ z ∈ [(u.size : Int)], -9223372036854775808 ≤ z ∧ z ≤ 9223372036854775807 := by intro z hz; simp at hz; subst hz; omega
  have hpl : (putL [(u.size : Int)]).length ≤ 10 := putL_len [(u.size : Int)] hr
  have HR := Lib.hid hr
  clear hr
  have HE : Hid (txtL u = putL [(u.size : Int)] ++ u.data.toList) := by
    show _ = _
    unfold txtL putL
    simp
  generalize hp : putL [(u.size : Int)] = p at *
  have HP := Lib.hid hp
  clear hp
  go_enter Try.func52, Try.ntmps52
  go_wp2_with fail
  refine (PutB_c [(u.size : Int)] 1 _ _ _ (Sl.oneB (Blk.new w #[.int .i64 (u.size : Int)] 2)) rfl (Nat.le_refl _) HR.out (by omega)).mono ?_
  rw [HP.out]
  rintro e w1 ⟨rfl, hb1⟩
  have hB1 : Below w.heap.size w w1 := ((Below.refl w.heap.size w).alloc (Nat.le_refl _) _).trans (hb1.mono (by simp))
  go_wp2_with fail
  have hbk := Blk.new w1 #[.string ⟨p.toArray⟩, .string u] 9
  have hj2 : Lib.join ([⟨p.toArray⟩, u].map (·.data.toList)) ({ data := #[] } : ByteArray).data.toList = p ++ u.data.toList := by simp [Lib.join, List.intercalate]
  refine (Try.strings_Join w1.heap.size 0 2 [⟨p.toArray⟩, u] { data := #[] } _ (fun j x hj => ?_) (by simp) (by simp) (by simp) ?_).mono ?_
  · rw [Nat.zero_add, hbk.cell j]
    have : j < 2 := (List.getElem?_eq_some_iff.1 hj).1
    have hj2 : j = 0 ∨ j = 1 := by omega
    rcases hj2 with rfl | rfl
    · simp at hj; subst hj; rfl
    · simp at hj; subst hj; rfl
  · rw [hj2]
    rw [List.length_append]
    have := Lib.size_eq u
    omega
  · rintro e w2 ⟨rfl, hb2⟩
    rw [hj2]
    go_wp2_with fail
    go_ret2
    refine ⟨?_, hB1.trans (((Below.refl w1.heap.size w1).alloc (Nat.le_refl _) _).trans (hb2.mono (by simp)) |>.mono hB1.size)⟩
    rw [HE.out]
    rfl

set_option maxHeartbeats 1000000 in
theorem TakeText_c (s : ByteArray) (hs : s.size ≤ 140737488355328) (w : World) : Calls Try.prog 49 #[.string s] w fun e w' => e = .returned (.tuple #[.string (takeT s).1, .int .i64 (takeT s).2.1, .int .i64 (takeT s).2.2]) ∧ w = w' := by
  have HE : Hid (takeT s = if (takeS s).2.2 ≠ 0 then (.empty, 0, (takeS s).2.2) else if (takeS s).1 < 0 then (.empty, 0, 21) else if 65536 < (takeS s).1 then (.empty, 0, 3)
    else if (s.size : Int) < (takeS s).2.1 + (takeS s).1 then (.empty, 0, 20) else (s.extract (takeS s).2.1.toNat ((takeS s).2.1.toNat + (takeS s).1.toNat), (takeS s).2.1 + (takeS s).1, 0)) := rfl
  have HTK : Hid (∀ W : World, Calls Try.prog 45 #[.string s] W fun e w' => e = .returned (.tuple #[.int .i64 (takeS s).1, .int .i64 (takeS s).2.1, .int .i64 (takeS s).2.2]) ∧ W = w') := fun W => Take_c s hs W
  have hback : (takeS s).2.2 = 0 → ∃ k : Nat, (takeS s).2.1 = (k : Int) ∧ k ≤ s.size ∧ -9223372036854775808 ≤ (takeS s).1 ∧ (takeS s).1 ≤ 9223372036854775807 := fun h => by
    have e : tkGo 0 0 s.data.toList = ((takeS s).1, (takeS s).2.1, 0) := by rw [← h]; rfl
    obtain ⟨k, h1, h2, _, _, h5, h6⟩ := take_back e
    exact ⟨k, h1, by rw [← Lib.size_eq] at h2; exact h2, h5, h6⟩
  generalize takeT s = R at *
  generalize takeS s = q at *
  obtain ⟨n, sz, er⟩ := q
  dsimp only at HE HTK hback
  by_cases he : er = 0
  · subst he
    obtain ⟨k, rfl, hk, hn1, hn2⟩ := hback rfl
    have HE2 := HE.out
    rw [if_neg (by simp)] at HE2
    clear HE hback
    by_cases c1 : n < 0
    · rw [if_pos c1] at HE2
      have HR := Lib.hid HE2
      clear HE2
      have d1 : decide (n < 0) = true := decide_eq_true c1
      go_enter Try.func49, Try.ntmps49
      go_wp2_with fail
      refine (HTK.out _).mono ?_
      rintro e w1 ⟨rfl, rfl⟩
      go_wp2_with fail
      go_ret3
      rw [HR.out]
      exact ⟨rfl, rfl⟩
    · rw [if_neg c1] at HE2
      have d1 : decide (n < 0) = false := decide_eq_false c1
      by_cases c2 : 65536 < n
      · rw [if_pos c2] at HE2
        have HR := Lib.hid HE2
        clear HE2
        have d2 : decide (65536 < n) = true := decide_eq_true c2
        go_enter Try.func49, Try.ntmps49
        go_wp2_with fail
        refine (HTK.out _).mono ?_
        rintro e w1 ⟨rfl, rfl⟩
        go_wp2_with fail
        go_ret3
        rw [HR.out]
        exact ⟨rfl, rfl⟩
      · rw [if_neg c2] at HE2
        obtain ⟨m, rfl⟩ : ∃ m : Nat, n = (m : Int) := ⟨n.toNat, by omega⟩
        by_cases c3 : (s.size : Int) < (k : Int) + (m : Int)
        · rw [if_pos c3] at HE2
          have HR := Lib.hid HE2
          clear HE2
          have d2 : ¬ (65536 : Int) < (m : Int) := c2
          have d3 : (s.size : Int) - (k : Int) < (m : Int) := by omega
          go_enter Try.func49, Try.ntmps49
          go_wp2_with fail
          refine (HTK.out _).mono ?_
          rintro e w1 ⟨rfl, rfl⟩
          go_wp2_with fail
          go_ret3
          rw [HR.out]
          exact ⟨rfl, rfl⟩
        · rw [if_neg c3] at HE2
          have HR := Lib.hid HE2
          clear HE2
          have d2 : ¬ (65536 : Int) < (m : Int) := c2
          have d3 : ¬ (s.size : Int) - (k : Int) < (m : Int) := by omega
          have d4 : k + m ≤ s.size := by omega
          go_enter Try.func49, Try.ntmps49
          go_wp2_with fail
          refine (HTK.out _).mono ?_
          rintro e w1 ⟨rfl, rfl⟩
          go_wp2_with fail
          go_ret3
          rw [HR.out]
          exact ⟨rfl, rfl⟩
  · have HE2 := HE.out
    rw [if_pos he] at HE2
    have HR := Lib.hid HE2
    clear HE HE2 hback
    have d1 : (er != 0) = true := by simpa using he
    go_enter Try.func49, Try.ntmps49
    go_wp2_with fail
    refine (HTK.out _).mono ?_
    rintro e w1 ⟨rfl, rfl⟩
    go_wp2_with fail
    go_ret3
    rw [HR.out]
    exact ⟨rfl, rfl⟩

end Go.Proofs.Ytfieoehchghiiaa
