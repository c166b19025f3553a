/-
  Walks: bytes.turned, bytes.back.
-/
import Derived.Test.YtfieoehchghiiaaB0
import Derived.Test.YtfieoehchghiiaaL0
import Derived.Test.YtfieoehchghiiaaChecked
import Derived.Laws.Bits64b
namespace Go.Proofs.Ytfieoehchghiiaa
open Go.RowKit
set_option linter.unusedVariables false

theorem xor_ones_u (a : Nat) (h : a < 18446744073709551616) : bits .xor .u64 (a : Int) 18446744073709551615 = ((18446744073709551615 - a : Nat) : Int) := by
  have h1 := bits_xor_u64_nat a 18446744073709551615 h (by omega)
  have e : a ^^^ 18446744073709551615 = 18446744073709551615 - a := by
    have h2 : (BitVec.ofNat 64 a ^^^ BitVec.allOnes 64).toNat = (~~~ BitVec.ofNat 64 a).toNat := by rw [BitVec.xor_allOnes]
    rw [BitVec.toNat_xor, BitVec.toNat_not, BitVec.toNat_ofNat, BitVec.toNat_allOnes] at h2
    rw [Nat.mod_eq_of_lt (by omega)] at h2
    have h3 : (2 : Nat) ^ 64 - 1 = 18446744073709551615 := by decide
    rw [h3] at h2
    exact h2
  rw [e] at h1
  exact h1
theorem xor_zero_u (a : Nat) (h : a < 18446744073709551616) : bits .xor .u64 (a : Int) 0 = (a : Int) := by
  have h1 := bits_xor_u64_nat a 0 h (by omega)
  rw [Nat.xor_zero] at h1
  exact h1

theorem wrap_i64B (n : Int) : IntKind.i64.wrap n = wrap64 n := by
  unfold wrap64
  simp [IntKind.wrap, IntKind.bits, IntKind.signed]
  try (split <;> omega)
theorem xor_zero_i (a : Nat) (h : a < 9223372036854775808) : bits .xor .i64 (a : Int) 0 = (a : Int) := by
  have e : (BitVec.ofInt 64 (a : Int) ^^^ BitVec.ofInt 64 0).toNat = a := by
    rw [BitVec.toNat_xor, BitVec.ofInt_natCast, BitVec.toNat_ofNat, Nat.mod_eq_of_lt (by omega)]
    exact Nat.xor_zero a
  show IntKind.i64.wrap ((BitVec.ofInt 64 (a : Int) ^^^ BitVec.ofInt 64 0).toNat : Int) = _
  rw [e, wrap_i64B]
  unfold wrap64
  omega
theorem xor_ones_i (a : Nat) (h : a < 9223372036854775808) : bits .xor .i64 (a : Int) (-1) = -(a : Int) - 1 := by
  have e : (BitVec.ofInt 64 (a : Int) ^^^ BitVec.ofInt 64 (-1)).toNat = 18446744073709551615 - a := by
    have h1 : BitVec.ofInt 64 (-1) = BitVec.allOnes 64 := by decide +kernel
    rw [h1, BitVec.xor_allOnes, BitVec.toNat_not, BitVec.ofInt_natCast, BitVec.toNat_ofNat, Nat.mod_eq_of_lt (by omega)]
  show IntKind.i64.wrap ((BitVec.ofInt 64 (a : Int) ^^^ BitVec.ofInt 64 (-1)).toNat : Int) = _
  rw [e, wrap_i64B]
  unfold wrap64
  omega
theorem turned_bits (n : Int) (h1 : -9223372036854775808 ≤ n) (h2 : n ≤ 9223372036854775807) :
    bits .xor .u64 (IntKind.u64.wrap (IntKind.u64.wrap n * 2)) (IntKind.u64.wrap (n / 9223372036854775808)) = (zig n : Int) := by
  rw [IntKind.wrap_u64, IntKind.wrap_u64, IntKind.wrap_u64]
  unfold zig
  by_cases h : 0 ≤ n
  · rw [if_pos h]
    have e1 : n % 18446744073709551616 * 2 % 18446744073709551616 = ((2 * n).toNat : Int) := by omega
    have e2 : n / 9223372036854775808 % 18446744073709551616 = 0 := by omega
    rw [e1, e2, xor_zero_u _ (by omega)]
  · rw [if_neg h]
    have e1 : n % 18446744073709551616 * 2 % 18446744073709551616 = ((2 * n + 18446744073709551616).toNat : Int) := by omega
    have e2 : n / 9223372036854775808 % 18446744073709551616 = 18446744073709551615 := by omega
    rw [e1, e2, xor_ones_u _ (by omega)]
    omega
theorem back_bits (u : Nat) (h : u < 18446744073709551616) : bits .xor .i64 ((u : Int) / 2) (wrap64 (-wrap64 (bits .and .u64 (u : Int) 1))) = unzig u := by
  have ha := bits_and_u64_nat u 1 h (by omega)
  rw [Nat.and_one_is_mod] at ha
  have ha' : bits .and .u64 (u : Int) 1 = ((u % 2 : Nat) : Int) := ha
  rw [ha']
  have e2 : (u : Int) / 2 = ((u / 2 : Nat) : Int) := by omega
  rw [e2]
  unfold unzig
  by_cases h0 : u % 2 = 0
  · rw [if_pos h0, h0]
    have e : wrap64 (-wrap64 ((0 : Nat) : Int)) = 0 := by decide +kernel
    rw [e, xor_zero_i _ (by omega)]
  · rw [if_neg h0, show u % 2 = 1 by omega]
    have e : wrap64 (-wrap64 ((1 : Nat) : Int)) = -1 := by decide +kernel
    rw [e, xor_ones_i _ (by omega)]

set_option maxHeartbeats 400000 in
theorem turned_c (n : Int) (h1 : -9223372036854775808 ≤ n) (h2 : n ≤ 9223372036854775807) (w : World) : Calls Try.prog 81 #[.int .i64 n] w fun e w' => e = .returned (.int .u64 (zig n)) ∧ w = w' := by
  go_enter Try.func81, Try.ntmps81
  go_wp2_with fail
  go_ret
  exact ⟨ret_int (turned_bits n h1 h2), rfl⟩

set_option maxHeartbeats 400000 in
theorem back_c (u : Nat) (h : u < 18446744073709551616) (w : World) : Calls Try.prog 80 #[.int .u64 u] w fun e w' => e = .returned (.int .i64 (unzig u)) ∧ w = w' := by
  go_enter Try.func80, Try.ntmps80
  go_wp2_with fail
  go_ret
  exact ⟨ret_int (back_bits u h), rfl⟩

end Go.Proofs.Ytfieoehchghiiaa
