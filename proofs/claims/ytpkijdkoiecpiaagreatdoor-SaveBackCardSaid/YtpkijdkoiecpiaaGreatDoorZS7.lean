/-
  Parts of the proof: B1 B2.
-/
import Derived.Test.YtpkijdkoiecpiaaGreatDoorChecked
import Derived.Laws.Bits64b
import Derived.Test.YtpkijdkoiecpiaaGreatDoorZS1
import Derived.Test.YtpkijdkoiecpiaaGreatDoorZS2
namespace Go.Proofs.YtpkijdkoiecpiaaGreatDoor
open Go.RowKit
set_option linter.unusedVariables false
set_option linter.unusedSimpArgs false
theorem xor_ones_u (a:Nat) (h:a < 18446744073709551616):bits .xor .u64 (a:Int) 18446744073709551615 = ((18446744073709551615 - a:Nat):Int):=by
 have h1:=bits_xor_u64_nat a 18446744073709551615 h (by omega)
 have e:a ^^^ 18446744073709551615 = 18446744073709551615 - a:=by
  have h2:(BitVec.ofNat 64 a ^^^ BitVec.allOnes 64).toNat = (~~~ BitVec.ofNat 64 a).toNat:=by rw [BitVec.xor_allOnes]
  rw [BitVec.toNat_xor,BitVec.toNat_not,BitVec.toNat_ofNat,BitVec.toNat_allOnes] at h2
  rw [Nat.mod_eq_of_lt (by omega)] at h2
  have h3:(2:Nat) ^ 64 - 1 = 18446744073709551615:=by decide
  rw [h3] at h2
  exact h2
 rw [e] at h1
 exact h1
theorem xor_zero_u (a:Nat) (h:a < 18446744073709551616):bits .xor .u64 (a:Int) 0 = (a:Int):=by
 have h1:=bits_xor_u64_nat a 0 h (by omega)
 rw [Nat.xor_zero] at h1
 exact h1
theorem wrap_i64B (n:Int):IntKind.i64.wrap n = wrap64 n:=by
 unfold wrap64
 simp [IntKind.wrap,IntKind.bits,IntKind.signed]
 try (split <;> omega)
theorem xor_zero_i (a:Nat) (h:a < 9223372036854775808):bits .xor .i64 (a:Int) 0 = (a:Int):=by
 have e:(BitVec.ofInt 64 (a:Int) ^^^ BitVec.ofInt 64 0).toNat = a:=by
  rw [BitVec.toNat_xor,BitVec.ofInt_natCast,BitVec.toNat_ofNat,Nat.mod_eq_of_lt (by omega)]
  exact Nat.xor_zero a
 show IntKind.i64.wrap ((BitVec.ofInt 64 (a:Int) ^^^ BitVec.ofInt 64 0).toNat:Int) = _
 rw [e,wrap_i64B]
 unfold wrap64
 omega
theorem xor_ones_i (a:Nat) (h:a < 9223372036854775808):bits .xor .i64 (a:Int) (-1) = -(a:Int) - 1:=by
 have e:(BitVec.ofInt 64 (a:Int) ^^^ BitVec.ofInt 64 (-1)).toNat = 18446744073709551615 - a:=by
  have h1:BitVec.ofInt 64 (-1) = BitVec.allOnes 64:=by decide +kernel
  rw [h1,BitVec.xor_allOnes,BitVec.toNat_not,BitVec.ofInt_natCast,BitVec.toNat_ofNat,Nat.mod_eq_of_lt (by omega)]
 show IntKind.i64.wrap ((BitVec.ofInt 64 (a:Int) ^^^ BitVec.ofInt 64 (-1)).toNat:Int) = _
 rw [e,wrap_i64B]
 unfold wrap64
 omega
theorem turned_bits (n:Int) (h1 : -9223372036854775808 ≤ n) (h2:n ≤ 9223372036854775807) :
  bits .xor .u64 (IntKind.u64.wrap (IntKind.u64.wrap n * 2)) (IntKind.u64.wrap (n / 9223372036854775808)) = (zig n:Int):=by
 rw [IntKind.wrap_u64,IntKind.wrap_u64,IntKind.wrap_u64]
 unfold zig
 by_cases h:0 ≤ n
 ·rw [if_pos h]
  have e1:n % 18446744073709551616 * 2 % 18446744073709551616 = ((2 * n).toNat:Int):=by omega
  have e2:n / 9223372036854775808 % 18446744073709551616 = 0:=by omega
  rw [e1,e2,xor_zero_u _ (by omega)]
 ·rw [if_neg h]
  have e1:n % 18446744073709551616 * 2 % 18446744073709551616 = ((2 * n + 18446744073709551616).toNat:Int):=by omega
  have e2:n / 9223372036854775808 % 18446744073709551616 = 18446744073709551615:=by omega
  rw [e1,e2,xor_ones_u _ (by omega)]
  omega
theorem back_bits (u:Nat) (h:u < 18446744073709551616):bits .xor .i64 ((u:Int) / 2) (wrap64 (-wrap64 (bits .and .u64 (u:Int) 1))) = unzig u:=by
 have ha:=bits_and_u64_nat u 1 h (by omega)
 rw [Nat.and_one_is_mod] at ha
 have ha':bits .and .u64 (u:Int) 1 = ((u % 2:Nat):Int):=ha
 rw [ha']
 have e2:(u:Int) / 2 = ((u / 2:Nat):Int):=by omega
 rw [e2]
 unfold unzig
 by_cases h0:u % 2 = 0
 ·rw [if_pos h0,h0]
  have e:wrap64 (-wrap64 ((0:Nat):Int)) = 0:=by decide +kernel
  rw [e,xor_zero_i _ (by omega)]
 ·rw [if_neg h0,show u % 2 = 1 by omega]
  have e:wrap64 (-wrap64 ((1:Nat):Int)) = -1:=by decide +kernel
  rw [e,xor_ones_i _ (by omega)]
set_option maxHeartbeats 400000 in
theorem turned_c (n:Int) (h1 : -9223372036854775808 ≤ n) (h2:n ≤ 9223372036854775807) (w:World):Calls Tryz.prog 161 #[.int .i64 n] w fun e w' => e = .returned (.int .u64 (zig n)) ∧ w = w':=by
 go_enter Tryz.func161,Tryz.ntmps161
 go_wp2_with fail
 go_ret
 exact ⟨ret_int (turned_bits n h1 h2),rfl⟩
set_option maxHeartbeats 400000 in
theorem back_c (u:Nat) (h:u < 18446744073709551616) (w:World):Calls Tryz.prog 148 #[.int .u64 u] w fun e w' => e = .returned (.int .i64 (unzig u)) ∧ w = w':=by
 go_enter Tryz.func148,Tryz.ntmps148
 go_wp2_with fail
 go_ret
 exact ⟨ret_int (back_bits u h),rfl⟩
theorem u8_and128 (c:Nat) (h:c < 256):bits .and .u8 (c:Int) 128 = if c < 128 then 0 else 128:=by
 have:∀ n:Fin 256,bits .and .u8 (n.val:Int) 128 = if n.val < 128 then 0 else 128:=by decide +kernel
 exact this ⟨c,h⟩
theorem u8_andNot128 (c:Nat) (h:c < 256):bits .andNot .u8 (c:Int) 128 = ((c % 128:Nat):Int):=by
 have:∀ n:Fin 256,bits .andNot .u8 (n.val:Int) 128 = ((n.val % 128:Nat):Int):=by decide +kernel
 exact this ⟨c,h⟩
theorem take_or (k U c:Nat) (hk:k ≤ 9) (hc:c < 256) (h9:k = 9 → c ≤ 1) (hU:U < 2 ^ (7 * k)) :
  bits .or .u64 (U:Int) (IntKind.u64.wrap (IntKind.u64.wrap (bits .andNot .u8 (c:Int) 128) * 2 ^ (7 * k))) = ((U + c % 128 * 2 ^ (7 * k):Nat):Int) ∧ U + c % 128 * 2 ^ (7 * k) < 18446744073709551616 ∧ U + c % 128 * 2 ^ (7 * k) < 2 ^ (7 * (k + 1)):=by
 have hm:c % 128 < 128:=Nat.mod_lt _ (by omega)
 have hP:(2:Nat) ^ (7 * (k + 1)) = 128 * 2 ^ (7 * k):=by rw [show 7 * (k + 1) = 7 + 7 * k by omega,Nat.pow_add]
 have hb:U + c % 128 * 2 ^ (7 * k) < 2 ^ (7 * (k + 1)):=by
  rw [hP]
  have:(c % 128 + 1) * 2 ^ (7 * k) ≤ 128 * 2 ^ (7 * k):=Nat.mul_le_mul_right _ (by omega)
  rw [Nat.add_mul] at this
  omega
 have hb2:U + c % 128 * 2 ^ (7 * k) < 18446744073709551616:=by
  by_cases h:k = 9
  ·subst h
   have:=h9 rfl
   have e:c % 128 = c:=Nat.mod_eq_of_lt (by omega)
   rw [e]
   have h63:(2:Nat) ^ (7 * 9) = 9223372036854775808:=by decide +kernel
   clear hb hP hm
   rw [h63] at hU ⊢
   clear h63
   omega
  ·have:2 ^ (7 * (k + 1)) ≤ 2 ^ 63:=Nat.pow_le_pow_right (by omega) (by omega)
   have h63:(2:Nat) ^ 63 = 9223372036854775808:=by decide +kernel
   omega
 refine ⟨?_,hb2,hb⟩
 have hx:c % 128 * 2 ^ (7 * k) < 18446744073709551616:=by omega
 rw [u8_andNot128 c hc,IntKind.wrap_u64,IntKind.wrap_u64]
 have e1:((c % 128:Nat):Int) % 18446744073709551616 = ((c % 128:Nat):Int):=by omega
 have e2:((c % 128:Nat):Int) * 2 ^ (7 * k) = ((c % 128 * 2 ^ (7 * k):Nat):Int):=by
  rw [Int.natCast_mul,Int.natCast_pow]
  rfl
 rw [e1,e2]
 have e3:((c % 128 * 2 ^ (7 * k):Nat):Int) % 18446744073709551616 = ((c % 128 * 2 ^ (7 * k):Nat):Int):=by omega
 rw [e3]
 exact or7 k hk U (c % 128) hU hx
set_option maxHeartbeats 2000000 in
theorem Take_c (s:ByteArray) (hs:s.size ≤ 140737488355328) (w:World):Calls Tryz.prog 90 #[.string s] w fun e w' => e = .returned (.tuple #[.int .i64 (takeS s).1, .int .i64 (takeS s).2.1, .int .i64 (takeS s).2.2]) ∧ w = w':=by
 go_enter Tryz.func90,Tryz.ntmps90
 go_wp2_with fail
 go_step3
 go_wp2_with fail
 go_step3
 go_wp2_with fail
 go_loop [5,6] (fun u q => ∃ k U:Nat,u = .int .u64 U ∧ q = .int .i64 k ∧ k ≤ 9 ∧ k ≤ s.size ∧ U < 2 ^ (7 * k) ∧ tkGo k U (s.data.toList.drop k) = takeS s) (fun _ q => s.size - (intOf q).toNat)
 case atStart => exact ⟨0,0,rfl,rfl,by omega,Nat.zero_le _,by decide,rfl⟩
 case round =>
  obtain ⟨k,U,rfl,rfl,hk9,hks,hU,hg⟩:=hrel
  by_cases hlt:k < s.size
  ·have hd:s.data.toList.drop k = s[k] :: s.data.toList.drop (k + 1):=List.drop_eq_getElem_cons (by rw [← Lib.size_eq]; exact hlt)
   rw [hd] at hg
   have hc8:(s[k]).toNat < 256:=(s[k]).toNat_lt
   generalize hcc:s[k] = c at *
   generalize htl:s.data.toList.drop (k + 1) = tl at *
   have HTL:=Lib.hid htl
   clear htl hd
   simp only [tkGo] at hg
   have hand:=u8_and128 c.toNat hc8
   by_cases h9:k = 9
   ·subst h9
    by_cases h1:1 < c.toNat
    ·rw [if_pos ⟨rfl,h1⟩] at hg
     have HR:=Lib.hid hg
     have d1:decide ((1:Int) < (c.toNat:Int)) = true:=by rw [decide_eq_true_eq]; omega
     clear hg hand hU
     go_wp2_with fail
     first | go_ret3 | (rw [Exit.noGoto_ret]; go_ret3)
     rw [← HR.out]
     exact ⟨rfl,rfl⟩
    ·obtain ⟨ho,hv1,hv2⟩:=take_or 9 U c.toNat (Nat.le_refl _) hc8 (fun _ => by omega) hU
     rw [if_neg (by omega),if_neg (by omega)] at hg
     rw [if_pos (by omega)] at hand
     have d1:decide ((1:Int) < (c.toNat:Int)) = false:=by rw [decide_eq_false_iff_not]; omega
     have hpow:(2:Int) ^ (7 * 9) = 9223372036854775808:=by decide +kernel
     rw [hpow] at ho
     generalize U + c.toNat % 128 * 2 ^ (7 * 9) = V at *
     by_cases h0:c.toNat = 0
     ·rw [if_pos ⟨h0,by omega⟩] at hg
      have HR:=Lib.hid hg
      have d0:((c.toNat:Int) == 0) = true:=by rw [beq_iff_eq]; omega
      clear hg hU
      go_wp2_with fail
      first | go_ret3 | (rw [Exit.noGoto_ret]; go_ret3)
      rw [← HR.out]
      exact ⟨rfl,rfl⟩
     ·rw [if_neg (by omega)] at hg
      have HR:=Lib.hid hg
      have d0:((c.toNat:Int) == 0) = false:=by rw [beq_eq_false_iff_ne]; omega
      clear hg hU
      go_wp2_with fail
      refine (back_c V hv1 _).mono ?_
      rintro e w1 ⟨rfl,rfl⟩
      go_wp2_with fail
      first | go_ret3 | (rw [Exit.noGoto_ret]; go_ret3)
      rw [← HR.out]
      exact ⟨rfl,rfl⟩
   ·obtain ⟨ho,hv1,hv2⟩:=take_or k U c.toNat hk9 hc8 (fun h => absurd h h9) hU
    rw [if_neg (fun h => h9 h.1)] at hg
    have d9:((k:Int) == 9) = false:=by rw [beq_eq_false_iff_ne]; omega
    generalize U + c.toNat % 128 * 2 ^ (7 * k) = V at *
    have HO:=Lib.hid ho
    by_cases h2:128 ≤ c.toNat
    ·rw [if_pos h2] at hg
     rw [if_neg (by omega)] at hand
     have HR:=Lib.hid hg
     have HU:=Lib.hid hv2
     clear hg hU hv2 ho
     go_wp2_with fail
     go_round
     case rel => exact ⟨k + 1,V,by rw [HO.out],by go_num,by omega,by omega,HU.out,by rw [HTL.out]; exact HR.out⟩
     case measure => simp [intOf]; omega
    ·rw [if_neg h2] at hg
     rw [if_pos (by omega)] at hand
     by_cases h0:c.toNat = 0 ∧ 0 < k
     ·rw [if_pos h0] at hg
      have HR:=Lib.hid hg
      have d0:((c.toNat:Int) == 0) = true:=by rw [beq_iff_eq]; omega
      have dk:(1:Int) < (k:Int) + 1:=by omega
      clear hg hU hv2 ho
      go_wp2_with fail
      first | go_ret3 | (rw [Exit.noGoto_ret]; go_ret3)
      rw [← HR.out]
      exact ⟨rfl,rfl⟩
     ·rw [if_neg h0] at hg
      have HR:=Lib.hid hg
      have dd:(((c.toNat:Int) == 0) = false) ∨ (((c.toNat:Int) == 0) = true ∧ ¬ (1:Int) < (k:Int) + 1):=by
       by_cases hz:c.toNat = 0
       ·right; exact ⟨by rw [beq_iff_eq]; omega,by omega⟩
       ·left; rw [beq_eq_false_iff_ne]; omega
      clear hg hU hv2 h0
      rcases dd with d0 | ⟨d0,dk⟩
      all_goals
       go_wp2_with fail
       refine (back_c V hv1 _).mono ?_
       rintro e w1 ⟨rfl,rfl⟩
       go_wp2_with fail
       first | go_ret3 | (rw [Exit.noGoto_ret]; go_ret3)
       rw [← HR.out]
       exact ⟨rfl,rfl⟩
  ·have hd:s.data.toList.drop k = []:=List.drop_of_length_le (by rw [← Lib.size_eq]; omega)
   rw [hd] at hg
   simp only [tkGo] at hg
   have HR:=Lib.hid hg
   clear hg hd hU
   go_wp2_with fail
   first | go_ret3 | (rw [Exit.noGoto_ret]; go_ret3)
   rw [← HR.out]
   exact ⟨rfl,rfl⟩
end Go.Proofs.YtpkijdkoiecpiaaGreatDoor
