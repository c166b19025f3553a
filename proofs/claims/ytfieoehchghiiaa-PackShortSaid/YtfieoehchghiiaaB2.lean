/-
  The walk of bytes.Take.
-/
import Derived.Test.YtfieoehchghiiaaB1
namespace Go.Proofs.Ytfieoehchghiiaa
open Go.RowKit
set_option linter.unusedVariables false

theorem u8_and128 (c : Nat) (h : c < 256) : bits .and .u8 (c : Int) 128 = if c < 128 then 0 else 128 := by
  have : ∀ n : Fin 256, bits .and .u8 (n.val : Int) 128 = if n.val < 128 then 0 else 128 := by decide +kernel
  exact this ⟨c, h⟩
theorem u8_andNot128 (c : Nat) (h : c < 256) : bits .andNot .u8 (c : Int) 128 = ((c % 128 : Nat) : Int) := by
  have : ∀ n : Fin 256, bits .andNot .u8 (n.val : Int) 128 = ((n.val % 128 : Nat) : Int) := by decide +kernel
  exact this ⟨c, h⟩

theorem take_or (k U c : Nat) (hk : k ≤ 9) (hc : c < 256) (h9 : k = 9 → c ≤ 1) (hU : U < 2 ^ (7 * k)) :
    bits .or .u64 (U : Int) (IntKind.u64.wrap (IntKind.u64.wrap (bits .andNot .u8 (c : Int) 128) * 2 ^ (7 * k))) = ((U + c % 128 * 2 ^ (7 * k) : Nat) : Int) ∧ U + c % 128 * 2 ^ (7 * k) < 18446744073709551616 ∧ U + c % 128 * 2 ^ (7 * k) < 2 ^ (7 * (k + 1)) := by
  have hm : c % 128 < 128 := Nat.mod_lt _ (by omega)
  have hP : (2 : Nat) ^ (7 * (k + 1)) = 128 * 2 ^ (7 * k) := by rw [show 7 * (k + 1) = 7 + 7 * k by omega, Nat.pow_add]
  have hb : U + c % 128 * 2 ^ (7 * k) < 2 ^ (7 * (k + 1)) := by
    rw [hP]
    have : (c % 128 + 1) * 2 ^ (7 * k) ≤ 128 * 2 ^ (7 * k) := Nat.mul_le_mul_right _ (by omega)
    rw [Nat.add_mul] at this
    omega
  have hb2 : U + c % 128 * 2 ^ (7 * k) < 18446744073709551616 := by
    by_cases h : k = 9
    · subst h
      have := h9 rfl
      have e : c % 128 = c := Nat.mod_eq_of_lt (by omega)
      rw [e]
      have h63 : (2 : Nat) ^ (7 * 9) = 9223372036854775808 := by decide +kernel
      clear hb hP hm
      rw [h63] at hU ⊢
      clear h63
      omega
    · have : 2 ^ (7 * (k + 1)) ≤ 2 ^ 63 := Nat.pow_le_pow_right (by omega) (by omega)
      have h63 : (2 : Nat) ^ 63 = 9223372036854775808 := by decide +kernel
      omega
  refine ⟨?_, hb2, hb⟩
  have hx : c % 128 * 2 ^ (7 * k) < 18446744073709551616 := by omega
  rw [u8_andNot128 c hc, IntKind.wrap_u64, IntKind.wrap_u64]
  have e1 : ((c % 128 : Nat) : Int) % 18446744073709551616 = ((c % 128 : Nat) : Int) := by omega
  have e2 : ((c % 128 : Nat) : Int) * 2 ^ (7 * k) = ((c % 128 * 2 ^ (7 * k) : Nat) : Int) := by
    rw [Int.natCast_mul, Int.natCast_pow]
    rfl
  rw [e1, e2]
  have e3 : ((c % 128 * 2 ^ (7 * k) : Nat) : Int) % 18446744073709551616 = ((c % 128 * 2 ^ (7 * k) : Nat) : Int) := by omega
  rw [e3]
  exact or7 k hk U (c % 128) hU hx

set_option maxHeartbeats 2000000 in
theorem Take_c (s : ByteArray) (hs : s.size ≤ 140737488355328) (w : World) : Calls Try.prog 45 #[.string s] w fun e w' => e = .returned (.tuple #[.int .i64 (takeS s).1, .int .i64 (takeS s).2.1, .int .i64 (takeS s).2.2]) ∧ w = w' := by
  go_enter Try.func45, Try.ntmps45
  go_wp2_with fail
  go_step3
  go_wp2_with fail
  go_step3
  go_wp2_with fail
  go_loop [5, 6] (fun u q => ∃ k U : Nat, u = .int .u64 U ∧ q = .int .i64 k ∧ k ≤ 9 ∧ k ≤ s.size ∧ U < 2 ^ (7 * k) ∧ tkGo k U (s.data.toList.drop k) = takeS s) (fun _ q => s.size - (intOf q).toNat)
  case atStart => exact ⟨0, 0, rfl, rfl, by omega, Nat.zero_le _, by decide, rfl⟩
  case round =>
    obtain ⟨k, U, rfl, rfl, hk9, hks, hU, hg⟩ := hrel
    by_cases hlt : k < s.size
    · have hd : s.data.toList.drop k = s[k] :: s.data.toList.drop (k + 1) := List.drop_eq_getElem_cons (by rw [← Lib.size_eq]; exact hlt)
      rw [hd] at hg
      have hc8 : (s[k]).toNat < 256 := (s[k]).toNat_lt
      generalize hcc : s[k] = c at *
      generalize htl : s.data.toList.drop (k + 1) = tl at *
      have HTL := Lib.hid htl
      clear htl hd
      simp only [tkGo] at hg
      have hand := u8_and128 c.toNat hc8
      by_cases h9 : k = 9
      · subst h9
        by_cases h1 : 1 < c.toNat
        · rw [if_pos ⟨rfl, h1⟩] at hg
          have HR := Lib.hid hg
          have d1 : decide ((1 : Int) < (c.toNat : Int)) = true := by rw [decide_eq_true_eq]; omega
          clear hg hand hU
          go_wp2_with fail
          first | go_ret3 | (rw [Exit.noGoto_ret]; go_ret3)
          rw [← HR.out]
          exact ⟨rfl, rfl⟩
        · obtain ⟨ho, hv1, hv2⟩ := take_or 9 U c.toNat (Nat.le_refl _) hc8 (fun _ => by omega) hU
          rw [if_neg (by omega), if_neg (by omega)] at hg
          rw [if_pos (by omega)] at hand
          have d1 : decide ((1 : Int) < (c.toNat : Int)) = false := by rw [decide_eq_false_iff_not]; omega
          have hpow : (2 : Int) ^ (7 * 9) = 9223372036854775808 := by decide +kernel
          rw [hpow] at ho
          generalize U + c.toNat % 128 * 2 ^ (7 * 9) = V at *
          by_cases h0 : c.toNat = 0
          · rw [if_pos ⟨h0, by omega⟩] at hg
            have HR := Lib.hid hg
            have d0 : ((c.toNat : Int) == 0) = true := by rw [beq_iff_eq]; omega
            clear hg hU
            go_wp2_with fail
            first | go_ret3 | (rw [Exit.noGoto_ret]; go_ret3)
            rw [← HR.out]
            exact ⟨rfl, rfl⟩
          · rw [if_neg (by omega)] at hg
            have HR := Lib.hid hg
            have d0 : ((c.toNat : Int) == 0) = false := by rw [beq_eq_false_iff_ne]; omega
            clear hg hU
            go_wp2_with fail
            refine (back_c V hv1 _).mono ?_
            rintro e w1 ⟨rfl, rfl⟩
            go_wp2_with fail
            first | go_ret3 | (rw [Exit.noGoto_ret]; go_ret3)
            rw [← HR.out]
            exact ⟨rfl, rfl⟩
      · obtain ⟨ho, hv1, hv2⟩ := take_or k U c.toNat hk9 hc8 (fun h => absurd h h9) hU
        rw [if_neg (fun h => h9 h.1)] at hg
        have d9 : ((k : Int) == 9) = false := by rw [beq_eq_false_iff_ne]; omega
        generalize U + c.toNat % 128 * 2 ^ (7 * k) = V at *
        have HO := Lib.hid ho
        by_cases h2 : 128 ≤ c.toNat
        · rw [if_pos h2] at hg
          rw [if_neg (by omega)] at hand
          have HR := Lib.hid hg
          have HU := Lib.hid hv2
          clear hg hU hv2 ho
          go_wp2_with fail
          go_round
          case rel => exact ⟨k + 1, V, by rw [HO.out], by go_num, by omega, by omega, HU.out, by rw [HTL.out]; exact HR.out⟩
          case measure => simp [intOf]; omega
        · rw [if_neg h2] at hg
          rw [if_pos (by omega)] at hand
          by_cases h0 : c.toNat = 0 ∧ 0 < k
          · rw [if_pos h0] at hg
            have HR := Lib.hid hg
            have d0 : ((c.toNat : Int) == 0) = true := by rw [beq_iff_eq]; omega
            have dk : (1 : Int) < (k : Int) + 1 := by omega
            clear hg hU hv2 ho
            go_wp2_with fail
            first | go_ret3 | (rw [Exit.noGoto_ret]; go_ret3)
            rw [← HR.out]
            exact ⟨rfl, rfl⟩
          · rw [if_neg h0] at hg
            have HR := Lib.hid hg
            have dd : (((c.toNat : Int) == 0) = false) ∨ (((c.toNat : Int) == 0) = true ∧ ¬ (1 : Int) < (k : Int) + 1) := by
              by_cases hz : c.toNat = 0
              · right; exact ⟨by rw [beq_iff_eq]; omega, by omega⟩
              · left; rw [beq_eq_false_iff_ne]; omega
            clear hg hU hv2 h0
            rcases dd with d0 | ⟨d0, dk⟩
            all_goals
              go_wp2_with fail
              refine (back_c V hv1 _).mono ?_
              rintro e w1 ⟨rfl, rfl⟩
              go_wp2_with fail
              first | go_ret3 | (rw [Exit.noGoto_ret]; go_ret3)
              rw [← HR.out]
              exact ⟨rfl, rfl⟩
    · have hd : s.data.toList.drop k = [] := List.drop_of_length_le (by rw [← Lib.size_eq]; omega)
      rw [hd] at hg
      simp only [tkGo] at hg
      have HR := Lib.hid hg
      clear hg hd hU
      go_wp2_with fail
      first | go_ret3 | (rw [Exit.noGoto_ret]; go_ret3)
      rw [← HR.out]
      exact ⟨rfl, rfl⟩

end Go.Proofs.Ytfieoehchghiiaa
