/-
  Walks: strings.ContainsRune at the signs of lex.
  Walks: lex.number, lex.goes.
  Walks: the closure of lex.Tokens, and lex.Tokens.
  The walk of lex.Tokens.
  Plain laws: what tokens are like; what is read may be.
  What is read is an expression with numbers within their kinds (plain).
-/
import Derived.Test.YtjbchkgkapccnaaGreatDoorMA
import Derived.Lib.Bytealg
import Derived.Lib.Walk
import Derived.Test.YtjbchkgkapccnaaGreatDoorMP
import Derived.Test.YtjbchkgkapccnaaGreatDoorME

namespace Go.Proofs.YtjbchkgkapccnaaGreatDoor
open Go.RowKit
set_option linter.unusedVariables false

def signsS : ByteArray := { data := #[43, 45, 42, 47, 37, 40, 41, 38, 124, 33, 61, 60] }

set_option maxRecDepth 100000 in
set_option maxHeartbeats 400000 in
theorem slIndexByte_c (s : ByteArray) (c : Int) (w : World) :
    Calls Tryz.prog 102 #[.string s, .int .u8 c] w fun e w' => e = .returned (.int .i64 (Lib.indexByte s.data.toList c.toNat.toUInt8)) ∧ w = w' := by
  go_enter Tryz.func102, Tryz.ntmps102
  go_wp2
  rw [run_callFunc_extern Tryz.func141 (by kernel_rfl) (by kernel_rfl) (by kernel_rfl) (e := Extern.BytealgIndexByte.indexByte) (by kernel_rfl), Lib.run_indexByteString]
  simp only [Result.andThen]
  rw [Oper.upon_value]
  go_wp2
  go_ret
  exact ⟨rfl, rfl⟩

set_option maxRecDepth 100000 in
set_option maxHeartbeats 400000 in
theorem IndexByte_c (s : ByteArray) (c : Int) (w : World) :
    Calls Tryz.prog 165 #[.string s, .int .u8 c] w fun e w' => e = .returned (.int .i64 (Lib.indexByte s.data.toList c.toNat.toUInt8)) ∧ w = w' := by
  go_enter Tryz.func165, Tryz.ntmps165
  go_wp2_with (go_at_call 102; refine (slIndexByte_c _ _ _).mono ?_; rintro e w' ⟨rfl, rfl⟩)
  go_ret
  exact ⟨rfl, rfl⟩

set_option maxRecDepth 100000 in
set_option maxHeartbeats 400000 in
theorem IndexRune_a (r : Int) (w : World) (h0 : 0 ≤ r) (h1 : r < 128) :
    Calls Tryz.prog 144 #[.string signsS, .int .i32 r] w fun e w' => e = .returned (.int .i64 (Lib.indexByte signsS.data.toList r.toNat.toUInt8)) ∧ w = w' := by
  go_enter Tryz.func144, Tryz.ntmps144
  go_wp2_with (go_at_call 165; refine (IndexByte_c _ _ _).mono ?_; rintro e w' ⟨rfl, rfl⟩)
  go_ret
  exact ⟨rfl, rfl⟩

/-- Not a rune of ASCII, and not the one that stands for what is none. -/
theorem encode_last (r : Int) (h0 : 128 ≤ r) (hv : Utf8.valid r = true) : ((Utf8.encode r).size = 2 ∨ (Utf8.encode r).size = 3 ∨ (Utf8.encode r).size = 4) ∧ ∀ n, n + 1 = (Utf8.encode r).size → ∀ h : n < (Utf8.encode r).size, 128 ≤ ((Utf8.encode r)[n]'h).toNat := by
  obtain ⟨h1, h2, h3⟩ := encode_facts r hv h0
  refine ⟨by omega, fun n hn h => ?_⟩
  obtain rfl : n = (Utf8.encode r).size - 1 := by omega
  exact h3 h

theorem noByte (c : UInt8) (k : Nat) (h : 128 ≤ c.toNat) : Lib.indexByte (signsS.extract k 12).data.toList c = -1 := by
  rw [← Lib.firstIdx_eq]
  exact firstIdx_ascii signsS k 12 c (by decide) h

theorem IB_neg (k : Nat) (c : Int) (w : World) (h : 128 ≤ c) (h2 : c < 256) :
    Calls Tryz.prog 165 #[.string (signsS.extract k 12), .int .u8 c] w fun e w' => e = .returned (.int .i64 (-1)) ∧ w' = w :=
  (IndexByte_c _ _ _).mono fun _ _ ⟨he, hw⟩ => ⟨by
    rw [he, noByte]
    show 128 ≤ (UInt8.ofNat c.toNat).toNat
    rw [UInt8.toNat_ofNat']
    omega, hw.symm⟩


set_option maxRecDepth 100000 in
set_option maxHeartbeats 400000 in
theorem IndexRune_d01 (r : Int) (w : World) (h0 : 128 ≤ r) (h2 : r ≤ 1114111) (h3 : r < 55296) (h4 : (r == 65533) = false) (e1 : (Utf8.encode r).size = 2) (hl : 1 < (Utf8.encode r).size)
    (hb : 128 ≤ ((Utf8.encode r)[1]'hl).toNat) :
    Calls Tryz.prog 144 #[.string signsS, .int .i32 r] w fun e w' => e = .returned (.int .i64 (-1)) ∧ Below w.heap.size w w' := by
  have hq : ¬ r < 128 := by omega
  have hp : 0 ≤ r := by omega
  have hb2 := ((Utf8.encode r)[1]'hl).toNat_lt
  have hss : signsS.size = 12 := rfl
  have hs1 : ∀ h, (signsS[1]'h).toNat = 45 := fun _ => rfl
  have hne : ((45 : Int) != (((Utf8.encode r)[1]'hl).toNat : Int)) = true := by rw [bne_iff_ne]; omega
  go_enter Tryz.func144, Tryz.ntmps144
  go_wp2
  go_step3
  go_wp2
  refine wp_loop_rounds 1 ?_
  rw [rounds_succ]
  go_wp2
  go_step3
  go_wp2
  go_quiet (fail)
  have hbw := below_drewN (Below.refl w.heap.size w) nq
  generalize w.drewN nq = w1 at *
  go_wp2
  go_quiet ((go_at_call 165; exact Calls.quiet_of_same (IB_neg _ _ _ (by omega) (by omega))))
  go_wp2
  simp only [Exit.noGoto_ret, Exit.inBlock, Exit.then]
  go_ret
  exact ⟨rfl, below_drewN hbw _⟩

set_option maxRecDepth 100000 in
set_option maxHeartbeats 400000 in
theorem IndexRune_d02 (r : Int) (w : World) (h0 : 128 ≤ r) (h2 : r ≤ 1114111) (h3 : r < 55296) (h4 : (r == 65533) = false) (e1 : (Utf8.encode r).size = 3) (hl : 2 < (Utf8.encode r).size)
    (hb : 128 ≤ ((Utf8.encode r)[2]'hl).toNat) :
    Calls Tryz.prog 144 #[.string signsS, .int .i32 r] w fun e w' => e = .returned (.int .i64 (-1)) ∧ Below w.heap.size w w' := by
  have hq : ¬ r < 128 := by omega
  have hp : 0 ≤ r := by omega
  have hb2 := ((Utf8.encode r)[2]'hl).toNat_lt
  have hss : signsS.size = 12 := rfl
  have hs1 : ∀ h, (signsS[2]'h).toNat = 42 := fun _ => rfl
  have hne : ((42 : Int) != (((Utf8.encode r)[2]'hl).toNat : Int)) = true := by rw [bne_iff_ne]; omega
  go_enter Tryz.func144, Tryz.ntmps144
  go_wp2
  go_step3
  go_wp2
  refine wp_loop_rounds 1 ?_
  rw [rounds_succ]
  go_wp2
  go_step3
  go_wp2
  go_quiet (fail)
  have hbw := below_drewN (Below.refl w.heap.size w) nq
  generalize w.drewN nq = w1 at *
  go_wp2
  go_quiet ((go_at_call 165; exact Calls.quiet_of_same (IB_neg _ _ _ (by omega) (by omega))))
  go_wp2
  simp only [Exit.noGoto_ret, Exit.inBlock, Exit.then]
  go_ret
  exact ⟨rfl, below_drewN hbw _⟩

set_option maxRecDepth 100000 in
set_option maxHeartbeats 400000 in
theorem IndexRune_d03 (r : Int) (w : World) (h0 : 128 ≤ r) (h2 : r ≤ 1114111) (h3 : r < 55296) (h4 : (r == 65533) = false) (e1 : (Utf8.encode r).size = 4) (hl : 3 < (Utf8.encode r).size)
    (hb : 128 ≤ ((Utf8.encode r)[3]'hl).toNat) :
    Calls Tryz.prog 144 #[.string signsS, .int .i32 r] w fun e w' => e = .returned (.int .i64 (-1)) ∧ Below w.heap.size w w' := by
  have hq : ¬ r < 128 := by omega
  have hp : 0 ≤ r := by omega
  have hb2 := ((Utf8.encode r)[3]'hl).toNat_lt
  have hss : signsS.size = 12 := rfl
  have hs1 : ∀ h, (signsS[3]'h).toNat = 47 := fun _ => rfl
  have hne : ((47 : Int) != (((Utf8.encode r)[3]'hl).toNat : Int)) = true := by rw [bne_iff_ne]; omega
  go_enter Tryz.func144, Tryz.ntmps144
  go_wp2
  go_step3
  go_wp2
  refine wp_loop_rounds 1 ?_
  rw [rounds_succ]
  go_wp2
  go_step3
  go_wp2
  go_quiet (fail)
  have hbw := below_drewN (Below.refl w.heap.size w) nq
  generalize w.drewN nq = w1 at *
  go_wp2
  go_quiet ((go_at_call 165; exact Calls.quiet_of_same (IB_neg _ _ _ (by omega) (by omega))))
  go_wp2
  simp only [Exit.noGoto_ret, Exit.inBlock, Exit.then]
  go_ret
  exact ⟨rfl, below_drewN hbw _⟩

set_option maxRecDepth 100000 in
set_option maxHeartbeats 400000 in
theorem IndexRune_d11 (r : Int) (w : World) (h0 : 128 ≤ r) (h2 : r ≤ 1114111) (h3 : 57343 < r) (h4 : (r == 65533) = false) (e1 : (Utf8.encode r).size = 2) (hl : 1 < (Utf8.encode r).size)
    (hb : 128 ≤ ((Utf8.encode r)[1]'hl).toNat) :
    Calls Tryz.prog 144 #[.string signsS, .int .i32 r] w fun e w' => e = .returned (.int .i64 (-1)) ∧ Below w.heap.size w w' := by
  have hq : ¬ r < 128 := by omega
  have hp : 0 ≤ r := by omega
  have hb2 := ((Utf8.encode r)[1]'hl).toNat_lt
  have hss : signsS.size = 12 := rfl
  have hs1 : ∀ h, (signsS[1]'h).toNat = 45 := fun _ => rfl
  have hne : ((45 : Int) != (((Utf8.encode r)[1]'hl).toNat : Int)) = true := by rw [bne_iff_ne]; omega
  have h5 : ¬ r < 55296 := by omega
  go_enter Tryz.func144, Tryz.ntmps144
  go_wp2
  go_step3
  go_wp2
  refine wp_loop_rounds 1 ?_
  rw [rounds_succ]
  go_wp2
  go_step3
  go_wp2
  go_quiet (fail)
  have hbw := below_drewN (Below.refl w.heap.size w) nq
  generalize w.drewN nq = w1 at *
  go_wp2
  go_quiet ((go_at_call 165; exact Calls.quiet_of_same (IB_neg _ _ _ (by omega) (by omega))))
  go_wp2
  simp only [Exit.noGoto_ret, Exit.inBlock, Exit.then]
  go_ret
  exact ⟨rfl, below_drewN hbw _⟩

set_option maxRecDepth 100000 in
set_option maxHeartbeats 400000 in
theorem IndexRune_d12 (r : Int) (w : World) (h0 : 128 ≤ r) (h2 : r ≤ 1114111) (h3 : 57343 < r) (h4 : (r == 65533) = false) (e1 : (Utf8.encode r).size = 3) (hl : 2 < (Utf8.encode r).size)
    (hb : 128 ≤ ((Utf8.encode r)[2]'hl).toNat) :
    Calls Tryz.prog 144 #[.string signsS, .int .i32 r] w fun e w' => e = .returned (.int .i64 (-1)) ∧ Below w.heap.size w w' := by
  have hq : ¬ r < 128 := by omega
  have hp : 0 ≤ r := by omega
  have hb2 := ((Utf8.encode r)[2]'hl).toNat_lt
  have hss : signsS.size = 12 := rfl
  have hs1 : ∀ h, (signsS[2]'h).toNat = 42 := fun _ => rfl
  have hne : ((42 : Int) != (((Utf8.encode r)[2]'hl).toNat : Int)) = true := by rw [bne_iff_ne]; omega
  have h5 : ¬ r < 55296 := by omega
  go_enter Tryz.func144, Tryz.ntmps144
  go_wp2
  go_step3
  go_wp2
  refine wp_loop_rounds 1 ?_
  rw [rounds_succ]
  go_wp2
  go_step3
  go_wp2
  go_quiet (fail)
  have hbw := below_drewN (Below.refl w.heap.size w) nq
  generalize w.drewN nq = w1 at *
  go_wp2
  go_quiet ((go_at_call 165; exact Calls.quiet_of_same (IB_neg _ _ _ (by omega) (by omega))))
  go_wp2
  simp only [Exit.noGoto_ret, Exit.inBlock, Exit.then]
  go_ret
  exact ⟨rfl, below_drewN hbw _⟩

set_option maxRecDepth 100000 in
set_option maxHeartbeats 400000 in
theorem IndexRune_d13 (r : Int) (w : World) (h0 : 128 ≤ r) (h2 : r ≤ 1114111) (h3 : 57343 < r) (h4 : (r == 65533) = false) (e1 : (Utf8.encode r).size = 4) (hl : 3 < (Utf8.encode r).size)
    (hb : 128 ≤ ((Utf8.encode r)[3]'hl).toNat) :
    Calls Tryz.prog 144 #[.string signsS, .int .i32 r] w fun e w' => e = .returned (.int .i64 (-1)) ∧ Below w.heap.size w w' := by
  have hq : ¬ r < 128 := by omega
  have hp : 0 ≤ r := by omega
  have hb2 := ((Utf8.encode r)[3]'hl).toNat_lt
  have hss : signsS.size = 12 := rfl
  have hs1 : ∀ h, (signsS[3]'h).toNat = 47 := fun _ => rfl
  have hne : ((47 : Int) != (((Utf8.encode r)[3]'hl).toNat : Int)) = true := by rw [bne_iff_ne]; omega
  have h5 : ¬ r < 55296 := by omega
  go_enter Tryz.func144, Tryz.ntmps144
  go_wp2
  go_step3
  go_wp2
  refine wp_loop_rounds 1 ?_
  rw [rounds_succ]
  go_wp2
  go_step3
  go_wp2
  go_quiet (fail)
  have hbw := below_drewN (Below.refl w.heap.size w) nq
  generalize w.drewN nq = w1 at *
  go_wp2
  go_quiet ((go_at_call 165; exact Calls.quiet_of_same (IB_neg _ _ _ (by omega) (by omega))))
  go_wp2
  simp only [Exit.noGoto_ret, Exit.inBlock, Exit.then]
  go_ret
  exact ⟨rfl, below_drewN hbw _⟩

set_option maxRecDepth 100000 in
set_option maxHeartbeats 400000 in
theorem IndexRune_c0 (r : Int) (w : World) (h0 : r < 0) :
    Calls Tryz.prog 144 #[.string signsS, .int .i32 r] w fun e w' => e = .returned (.int .i64 (-1)) ∧ Below w.heap.size w w' := by
  have h2 : ¬ 0 ≤ r := by omega
  have h3 : (r == 65533) = false := by simp; omega
  have h4 : r ≤ 57343 := by omega
  go_enter Tryz.func144, Tryz.ntmps144
  go_wp2
  go_ret
  exact ⟨rfl, Below.refl _ _⟩

set_option maxRecDepth 100000 in
set_option maxHeartbeats 400000 in
theorem IndexRune_c1 (r : Int) (w : World) (h0 : 128 ≤ r) (h1 : 1114111 < r ∨ 55296 ≤ r ∧ r ≤ 57343) :
    Calls Tryz.prog 144 #[.string signsS, .int .i32 r] w fun e w' => e = .returned (.int .i64 (-1)) ∧ Below w.heap.size w w' := by
  have h2 : 0 ≤ r := by omega
  have h4 : ¬ r < 128 := by omega
  have h5 : ¬ r < 55296 := by omega
  have h3 : (r == 65533) = false := by simp; omega
  rcases h1 with h1 | ⟨h1, h6⟩
  · have h7 : 57343 < r := by omega
    go_enter Tryz.func144, Tryz.ntmps144
    go_wp2
    go_ret
    exact ⟨rfl, Below.refl _ _⟩
  · go_enter Tryz.func144, Tryz.ntmps144
    go_wp2
    go_ret
    exact ⟨rfl, Below.refl _ _⟩

theorem signs_decode (pos : Nat) (h : pos < signsS.size) : ((Utf8.decode signsS pos).1 == 65533) = false := by
  have h12 : pos < 12 := h
  have hall : ∀ k, k < 12 → ((Utf8.decode signsS k).1 == 65533) = false := by decide +kernel
  exact hall pos h12

theorem below_iter {B : Nat} {a w : World} (h : Below B a w) (hB : B ≤ w.heap.size) (s : ByteArray) (pos : Nat) : Below B a (w.iter s pos) := h.alloc hB _

set_option maxRecDepth 100000 in
set_option maxHeartbeats 400000 in
theorem IndexRune_b (w : World) :
    Calls Tryz.prog 144 #[.string signsS, .int .i32 65533] w fun e w' => e = .returned (.int .i64 (-1)) ∧ Below w.heap.size w w' := by
  go_enter Tryz.func144, Tryz.ntmps144
  go_wp2
  go_loopw [5] (fun _ wr => ∃ (pos : Nat), wr = w.iter signsS pos) (fun _ wr => signsS.size - wr.iterPos w.heap.size)
  case atStart => exact ⟨0, rfl⟩
  case round =>
    obtain ⟨pos, rfl⟩ := hrel
    by_cases hp : pos < signsS.size
    · have hnx : ∀ ty, (Instr.next (.pointer (some ⟨w.heap.size, 0, none⟩)) true ty).run Tryz.prog (w.iter signsS pos) = _ := fun ty => run_next_any w signsS pos ty hp
      have hwd := Lib.decode_width_pos signsS pos hp
      have hne : (((Utf8.decode signsS pos).1 : Int) == 65533) = false := by have := signs_decode pos hp; simp at this ⊢; omega
      go_wp2
      go_roundw
      case rel => exact ⟨_, rfl⟩
      case measure => simp; omega
    · have hnx : ∀ ty, (Instr.next (.pointer (some ⟨w.heap.size, 0, none⟩)) true ty).run Tryz.prog (w.iter signsS pos) = _ := fun ty => run_next_end w signsS pos ty hp
      go_wp2
      go_ret
      exact ⟨rfl, below_iter (Below.refl _ _) (Nat.le_refl _) _ _⟩

theorem sign_index (r : Int) (h0 : 0 ≤ r) (h1 : r < 128) : decide (0 ≤ Lib.indexByte signsS.data.toList r.toNat.toUInt8) = signB r := by
  obtain ⟨n, rfl⟩ := Int.eq_ofNat_of_zero_le h0
  have hn : n < 128 := by omega
  have hall : ∀ k, k < 128 → decide (0 ≤ Lib.indexByte signsS.data.toList ((k : Nat) : Int).toNat.toUInt8) = signB ((k : Nat) : Int) := by decide +kernel
  exact hall n hn

/-- What IndexRune finds among the signs. -/
theorem IndexRune_any (r : Int) (w : World) :
    Calls Tryz.prog 144 #[.string signsS, .int .i32 r] w fun e w' => ∃ k, e = .returned (.int .i64 k) ∧ decide (0 ≤ k) = signB r ∧ Below w.heap.size w w' := by
  have hneg : ∀ k : Int, k = -1 → (r < 0 ∨ 128 ≤ r) → decide (0 ≤ k) = signB r := by
    intro k hk hr; subst hk; unfold signB; rw [Bool.eq_iff_iff]; simp; omega
  by_cases h0 : r < 0
  · exact (IndexRune_c0 r w h0).mono fun e w' ⟨he, hw⟩ => ⟨_, he, hneg _ rfl (.inl h0), hw⟩
  by_cases h1 : r < 128
  · exact (IndexRune_a r w (by omega) h1).mono fun e w' ⟨he, hw⟩ => ⟨_, he, sign_index r (by omega) h1, by subst hw; exact Below.refl _ _⟩
  by_cases h2 : 1114111 < r ∨ 55296 ≤ r ∧ r ≤ 57343
  · exact (IndexRune_c1 r w (by omega) h2).mono fun e w' ⟨he, hw⟩ => ⟨_, he, hneg _ rfl (.inr (by omega)), hw⟩
  by_cases h3 : r = 65533
  · subst h3
    exact (IndexRune_b w).mono fun e w' ⟨he, hw⟩ => ⟨_, he, hneg _ rfl (.inr (by omega)), hw⟩
  have h4 : (r == 65533) = false := by simpa using h3
  have hv : Utf8.valid r = true := by rw [validRune_eq]; unfold validRune; simp; omega
  obtain ⟨e1, e2⟩ := encode_last r (by omega) hv
  have fin : (Calls Tryz.prog 144 #[.string signsS, .int .i32 r] w fun e w' => e = .returned (.int .i64 (-1)) ∧ Below w.heap.size w w') := by
    by_cases h5 : r < 55296
    · rcases e1 with e1 | e1 | e1
      · exact IndexRune_d01 r w (by omega) (by omega) h5 h4 e1 (by omega) (e2 1 (by omega) _)
      · exact IndexRune_d02 r w (by omega) (by omega) h5 h4 e1 (by omega) (e2 2 (by omega) _)
      · exact IndexRune_d03 r w (by omega) (by omega) h5 h4 e1 (by omega) (e2 3 (by omega) _)
    · rcases e1 with e1 | e1 | e1
      · exact IndexRune_d11 r w (by omega) (by omega) (by omega) h4 e1 (by omega) (e2 1 (by omega) _)
      · exact IndexRune_d12 r w (by omega) (by omega) (by omega) h4 e1 (by omega) (e2 2 (by omega) _)
      · exact IndexRune_d13 r w (by omega) (by omega) (by omega) h4 e1 (by omega) (e2 3 (by omega) _)
  exact fin.mono fun e w' ⟨he, hw⟩ => ⟨_, he, hneg _ rfl (.inr (by omega)), hw⟩

theorem ContainsRune_c (r : Int) (w : World) :
    Calls Tryz.prog 112 #[.string signsS, .int .i32 r] w fun e w' => e = .returned (.bool (signB r)) ∧ Below w.heap.size w w' := by
  go_enter Tryz.func112, Tryz.ntmps112
  go_wp2_with (go_at_call 144; refine (IndexRune_any _ _).mono ?_; rintro e w' ⟨k, rfl, hk, hb⟩; have HK := Lib.hid hk; clear hk)
  go_ret
  exact ⟨ret_bool (by rw [← HK.out]), hb⟩

set_option maxHeartbeats 400000 in
theorem kind_c (r : Int) (w : World) :
    Calls Tryz.prog 121 #[.int .i32 r] w fun e w' => e = .returned (.int .u8 (kindN r)) ∧ Below w.heap.size w w' := by
  have hz : (Utf8.encode r).size ≤ maxLen := by have := encode_size r; unfold maxLen; omega
  by_cases h0 : 48 ≤ r ∧ r ≤ 57
  · obtain ⟨h1, h2⟩ := h0
    go_enter Tryz.func121, Tryz.ntmps121
    go_wp2
    go_ret
    exact ⟨ret_int (by unfold kindN; rw [if_pos ⟨h1, h2⟩]), Below.refl _ _⟩
  · cases hs : signB r
    · cases hn : nameB (Utf8.encode r)
      all_goals
        have HS := Lib.hid hs
        have HN := Lib.hid hn
        have H0 := Lib.hid h0
        clear hs hn h0
        go_enter Tryz.func121, Tryz.ntmps121
        go_wp2_with (first
          | (go_at_call 112; refine (ContainsRune_c _ _).mono ?_; rintro e w1 ⟨rfl, hb1⟩; rw [HS.out])
          | (go_at_call 85; refine (Name_c _ _ hz).mono ?_; rintro e w2 ⟨rfl, _, rfl⟩; rw [HN.out]))
        all_goals first | (exfalso; have := H0.out; omega) | skip
        all_goals
          go_ret
          exact ⟨ret_int (by unfold kindN; rw [if_neg H0.out, HS.out, HN.out]; rfl), below_iter hb1 hb1.size _ _⟩
    · have HS := Lib.hid hs
      have H0 := Lib.hid h0
      clear hs h0
      go_enter Tryz.func121, Tryz.ntmps121
      go_wp2_with (go_at_call 112; refine (ContainsRune_c _ _).mono ?_; rintro e w1 ⟨rfl, hb1⟩; rw [HS.out])
      all_goals first | (exfalso; have := H0.out; omega) | skip
      all_goals
        go_ret
        exact ⟨ret_int (by unfold kindN; rw [if_neg H0.out, HS.out]; rfl), hb1⟩

end Go.Proofs.YtjbchkgkapccnaaGreatDoor

namespace Go.Proofs.YtjbchkgkapccnaaGreatDoor
open Go.RowKit
set_option linter.unusedVariables false

def numRes (o : Option Int) : Ending := .returned (.tuple #[.int .i64 (o.getD 0), .bool o.isSome])

set_option maxHeartbeats 400000 in
theorem number_c (s : ByteArray) (w : World) (hs : ∀ r ∈ runes s, 48 ≤ r ∧ r ≤ 57) :
    Calls Tryz.prog 119 #[.string s] w fun e w' => e = numRes (numGo 0 (runes s)) ∧ Below w.heap.size w w' := by
  go_enter Tryz.func119, Tryz.ntmps119
  go_wp2
  go_loopw [4] (fun n wr => ∃ (pos : Nat) (k : Int), wr = w.iter s pos ∧ n = .int .i64 k ∧ 0 ≤ k ∧ k ≤ 9223372036854775807 ∧ (∀ r ∈ runesAt s pos, 48 ≤ r ∧ r ≤ 57) ∧ numGo k (runesAt s pos) = numGo 0 (runes s)) (fun _ wr => s.size - wr.iterPos w.heap.size)
  case atStart => exact ⟨0, 0, rfl, rfl, by omega, by omega, hs, rfl⟩
  case round =>
    obtain ⟨pos, k, rfl, rfl, hk0, hk1, hd, hg⟩ := hrel
    by_cases hp : pos < s.size
    · have hnx : ∀ ty, (Instr.next (.pointer (some ⟨w.heap.size, 0, none⟩)) true ty).run Tryz.prog (w.iter s pos) = _ := fun ty => run_next_any w s pos ty hp
      have hwd := Lib.decode_width_pos s pos hp
      rw [runesAt_step s pos hp] at hg hd
      simp only [numGo] at hg
      have hr := hd _ List.mem_cons_self
      have HD := Lib.hid (fun r (h : r ∈ runesAt s (pos + (Utf8.decode s pos).2)) => hd r (List.mem_cons_of_mem _ h))
      generalize hR : ((Utf8.decode s pos).1 : Int) = R at *
      have HG := Lib.hid hg
      clear hg hd hs
      obtain ⟨hr1, hr2⟩ := hr
      have hi := IntWalk.i64_in (10 * k + (R - 48))
      go_wp2
      · go_ret2
        exact ⟨by rw [← HG.out, if_pos (by assumption)]; rfl, below_iter (Below.refl _ _) (Nat.le_refl _) _ _⟩
      · have hle : k ≤ (9223372036854775807 - (R - 48)) / 10 := by assumption
        go_roundw
        case rel => exact ⟨_, _, rfl, rfl, by omega, by omega, HD.out, by rw [← HG.out, if_neg (by omega)]⟩
        case measure => simp; omega
    · have hnx : ∀ ty, (Instr.next (.pointer (some ⟨w.heap.size, 0, none⟩)) true ty).run Tryz.prog (w.iter s pos) = _ := fun ty => run_next_end w s pos ty hp
      rw [runesAt_end s pos hp] at hg
      simp only [numGo] at hg
      have HG := Lib.hid hg
      clear hg
      go_wp2
      go_ret2
      exact ⟨by rw [← HG.out]; rfl, below_iter (Below.refl _ _) (Nat.le_refl _) _ _⟩

set_option maxHeartbeats 400000 in
theorem goes_c (k : Int) (tx : ByteArray) (n a r : Int) (w : World) :
    Calls Tryz.prog 120 #[.agg #[.int .u8 k, .string tx, .int .i64 n, .int .i64 a], .int .i32 r] w fun e w' => e = .returned (.bool (goesB k tx r)) ∧ Below w.heap.size w w' := by
  by_cases h3 : k = 3
  · subst h3
    go_enter Tryz.func120, Tryz.ntmps120
    go_wp2
    all_goals
      go_ret
      exact ⟨ret_bool (by unfold goesB; rw [if_pos rfl, Bool.eq_iff_iff]; simp [*]), (Below.refl _ _).alloc (Nat.le_refl _) _⟩
  · have h3' : (k == 3) = false := by simpa using h3
    have H3 := Lib.hid h3
    clear h3
    by_cases h0 : k = 0
    · subst h0
      go_enter Tryz.func120, Tryz.ntmps120
      go_wp2
      go_quiet (fail)
      go_wp2
      go_ret
      exact ⟨ret_bool (by unfold goesB; rw [if_neg H3.out]; rfl), below_drewN ((Below.refl _ _).alloc (Nat.le_refl _) _) _⟩
    · have h0' : (k != 0) = true := by simpa using h0
      have H0 := Lib.hid h0
      clear h0
      go_enter Tryz.func120, Tryz.ntmps120
      go_wp2
      go_region_with (go_at_call 121; refine (kind_c _ _).mono ?_; rintro e w1 ⟨rfl, hb1⟩; have hc1 := hb1.cell (p := ⟨w.heap.size, 0, none⟩) (by simp))
      all_goals
        go_wp2
        go_ret
        exact ⟨ret_bool (by unfold goesB; rw [if_neg H3.out, Bool.eq_iff_iff]; simp [H0.out]), (((Below.refl _ _).alloc (Nat.le_refl _) _).drew.trans (hb1.mono (by simp)))⟩

end Go.Proofs.YtjbchkgkapccnaaGreatDoor

namespace Go.Proofs.YtjbchkgkapccnaaGreatDoor
open Go.RowKit
set_option linter.unusedVariables false

theorem info_tok : (Tryz.prog.info? 158).map (fun i => (i.zero, i.size, i.bytes)) = some (some Tok.zero.agg, 4, 40) := by kernel_rfl

/-- What the closure leaves: token, row. -/
structure Held (w : World) (Bt Bo base : Nat) (t : Tok) (v : Value) (out : List Tok) : Prop where
  tok : Blk w Bt 158 #[.int .u8 t.kind, .string t.text, .int .i64 t.n, .int .i64 t.at_]
  row : Blk w Bo 121 #[v]
  own : w.ownsRow base 158 4 v out.length (toksCells out)

theorem Held.lt1 {w : World} {Bt Bo base : Nat} {t : Tok} {v : Value} {out : List Tok} (h : Held w Bt Bo base t v out) : Bt < w.heap.size := h.tok.lt

/-- Four stores into the token's block. -/
theorem Held.zero {w : World} {Bt Bo base : Nat} {t : Tok} {v : Value} {out : List Tok} (h : Held w Bt Bo base t v out) (h1 : Bt < base) (h3 : Bt ≠ Bo) :
    Held ((((w.setCell ⟨Bt, 0, none⟩ (.int .u8 0)).setCell ⟨Bt, 1, none⟩ (.string { data := #[] })).setCell ⟨Bt, 2, none⟩ (.int .i64 0)).setCell ⟨Bt, 3, none⟩ (.int .i64 0)) Bt Bo base Tok.zero v out ∧
      Fr (fun k => k = Bt ∨ k = Bo ∨ base ≤ k) w ((((w.setCell ⟨Bt, 0, none⟩ (.int .u8 0)).setCell ⟨Bt, 1, none⟩ (.string { data := #[] })).setCell ⟨Bt, 2, none⟩ (.int .i64 0)).setCell ⟨Bt, 3, none⟩ (.int .i64 0)) := by
  refine ⟨⟨(((h.tok.set 0 _).set 1 _).set 2 _).set 3 _, (((h.row.other (p := ⟨Bt, 0, none⟩) (Ne.symm h3) _).other (p := ⟨Bt, 1, none⟩) (Ne.symm h3) _).other (p := ⟨Bt, 2, none⟩) (Ne.symm h3) _).other (p := ⟨Bt, 3, none⟩) (Ne.symm h3) _, ?_⟩, ?_⟩
  · exact ownsRow_setCell_below (ownsRow_setCell_below (ownsRow_setCell_below (ownsRow_setCell_below h.own (a := ⟨Bt, 0, none⟩) h1 _) (a := ⟨Bt, 1, none⟩) h1 _) (a := ⟨Bt, 2, none⟩) h1 _) (a := ⟨Bt, 3, none⟩) h1 _
  · exact ((((Fr.refl _ _).setCell (p := ⟨Bt, 0, none⟩) (.inl (.inl rfl)) _).setCell (p := ⟨Bt, 1, none⟩) (.inl (.inl rfl)) _).setCell (p := ⟨Bt, 2, none⟩) (.inl (.inl rfl)) _).setCell (p := ⟨Bt, 3, none⟩) (.inl (.inl rfl)) _

theorem Held.appended {W w3 : World} {o : Obj} {Bt Bo base : Nat} {t : Tok} {v v' : Value} {out : List Tok} (h : Held W Bt Bo base t v out) (h1 : Bt < base) (h2 : Bo < base) (h3 : Bt ≠ Bo)
    (hown : w3.ownsRow base 158 4 v' (out.length + 1) (toksCells out ++ t.cells)) (hg : (W.alloc o).grownBy w3 v.ownBlock) :
    Held (w3.setCell ⟨Bo, 0, none⟩ v') Bt Bo base t v' (out ++ [t]) ∧ Fr (fun k => k = Bt ∨ k = Bo ∨ base ≤ k) W (w3.setCell ⟨Bo, 0, none⟩ v') ∧ Blk w3 Bo 121 #[v] ∧ Blk w3 Bt 158 #[.int .u8 t.kind, .string t.text, .int .i64 t.n, .int .i64 t.at_] := by
  have hr : ∀ k, v.ownBlock = some k → base ≤ k := fun k hk => (h.own.lt k hk).1
  have hBo : Blk w3 Bo 121 #[v] := (h.row.alloc o).grown hg (fun e => by have := hr Bo e.symm; omega)
  have hBt := (h.tok.alloc o).grown hg (fun e => by have := hr Bt e.symm; omega)
  refine ⟨⟨hBt.other (p := ⟨Bo, 0, none⟩) h3 _, hBo.set 0 v', ?_⟩, ?_, hBo, hBt⟩
  · rw [List.length_append, toksCells_snoc]
    exact ownsRow_setCell_below hown (a := ⟨Bo, 0, none⟩) h2 _
  · exact ((((Fr.refl _ W).alloc o).grown hg (fun k hk => .inl (.inr (.inr (hr k hk)))))).setCell (p := ⟨Bo, 0, none⟩) (.inl (.inr (.inl rfl))) _

theorem cell_four_new (w : World) (a b c d : Value) (t : TypeId) : ∀ j u, [a, b, c, d][j]? = some u → (w.alloc (.cells #[a, b, c, d] t)).cell? ((⟨w.heap.size, 0, none⟩ : Addr).add j) = some u := by
  intro j u hj
  have hj4 : j < 4 := (List.getElem?_eq_some_iff.1 hj).1
  rw [Addr.add_lit, Nat.zero_add, (Blk.new w #[a, b, c, d] t).cell j]
  simpa using hj

set_option maxHeartbeats 400000 in
theorem ends_0 (Bt Bo base : Nat) (t : Tok) (v : Value) (out : List Tok) (w : World) (h : Held w Bt Bo base t v out) (hk : t.kind = 0) (h1 : Bt < base) (h3 : Bt ≠ Bo) :
    Calls Tryz.prog 118 #[.pointer (some ⟨Bt, 0, none⟩), .pointer (some ⟨Bo, 0, none⟩)] w fun e w' => e = .returned (.bool true) ∧ Held w' Bt Bo base Tok.zero v out ∧ Fr (fun k => k = Bt ∨ k = Bo ∨ base ≤ k) w w' := by
  have hz := h.zero h1 h3
  obtain ⟨k, tx, n, a⟩ := t
  simp only at hk
  subst hk
  have hb := h.tok
  have c0 := hb.cell 0
  have c1 := hb.cell 1
  have c2 := hb.cell 2
  have c3 := hb.cell 3
  have f0 := hb.free 0
  have f1 := hb.free 1
  have f2 := hb.free 2
  have f3 := hb.free 3
  go_enter Tryz.func118, Tryz.ntmps118
  go_wp2
  go_ret
  exact ⟨rfl, hz⟩

set_option maxHeartbeats 400000 in
theorem ends_2n (Bt Bo base : Nat) (t : Tok) (v : Value) (out : List Tok) (w : World) (h : Held w Bt Bo base t v out) (hk : t.kind = 2)
    (hd : ∀ r ∈ runes t.text, 48 ≤ r ∧ r ≤ 57) (hn : numGo 0 (runes t.text) = none) :
    Calls Tryz.prog 118 #[.pointer (some ⟨Bt, 0, none⟩), .pointer (some ⟨Bo, 0, none⟩)] w fun e w' => e = .returned (.bool false) ∧ Fr (fun k => k = Bt ∨ k = Bo ∨ base ≤ k) w w' := by
  obtain ⟨k, tx, n, a⟩ := t
  simp only at hk hd hn
  subst hk
  have hb := h.tok
  have c0 := hb.cell 0
  have c1 := hb.cell 1
  have c2 := hb.cell 2
  have c3 := hb.cell 3
  have HN := Lib.hid hn
  clear hn
  go_enter Tryz.func118, Tryz.ntmps118
  go_wp2_with (go_at_call 119; refine (number_c _ _ hd).mono ?_; rintro e w1 ⟨rfl, hb1⟩; rw [HN.out]; unfold numRes; dsimp only [Option.getD, Option.isSome])
  go_ret
  exact ⟨rfl, Fr.of_new hb1⟩

set_option maxHeartbeats 400000 in
theorem ends_2s (Bt Bo base : Nat) (t : Tok) (v : Value) (out : List Tok) (w : World) (h : Held w Bt Bo base t v out) (hk : t.kind = 2) (h1 : Bt < base) (h2 : Bo < base) (h3 : Bt ≠ Bo) (h4 : base ≤ w.heap.size)
    (hd : ∀ r ∈ runes t.text, 48 ≤ r ∧ r ≤ 57) (m : Int) (hn : numGo 0 (runes t.text) = some m) (hl : out.length < 1000000) :
    Calls Tryz.prog 118 #[.pointer (some ⟨Bt, 0, none⟩), .pointer (some ⟨Bo, 0, none⟩)] w fun e w' => e = .returned (.bool true) ∧ (∃ v', Held w' Bt Bo base Tok.zero v' (out ++ [⟨2, { data := #[] }, m, t.at_⟩])) ∧ Fr (fun k => k = Bt ∨ k = Bo ∨ base ≤ k) w w' := by
  obtain ⟨k, tx, n, a⟩ := t
  simp only at hk hd hn
  subst hk
  have hb := h.tok
  have c0 := hb.cell 0
  have c1 := hb.cell 1
  have HN := Lib.hid hn
  clear hn
  go_enter Tryz.func118, Tryz.ntmps118
  go_upto_region 7 with (go_at_call 119; refine (number_c _ _ hd).mono ?_; rintro e w1 ⟨rfl, hb1⟩; rw [HN.out]; unfold numRes; dsimp only [Option.getD, Option.isSome]; have hb2 := hb.below hb1 hb.lt; have d0 := hb2.cell 0; have d1 := hb2.cell 1; have d2 := hb2.cell 2; have f1 := hb2.free 1; have f2 := hb2.free 2)
  have H0 : Held ((w1.setCell ⟨Bt, 2, none⟩ (.int .i64 m)).setCell ⟨Bt, 1, none⟩ (.string { data := #[] })) Bt Bo base ⟨2, { data := #[] }, m, a⟩ v out ∧ Fr (fun k => k = Bt ∨ k = Bo ∨ base ≤ k) w ((w1.setCell ⟨Bt, 2, none⟩ (.int .i64 m)).setCell ⟨Bt, 1, none⟩ (.string { data := #[] })) ∧ w.heap.size ≤ ((w1.setCell ⟨Bt, 2, none⟩ (.int .i64 m)).setCell ⟨Bt, 1, none⟩ (.string { data := #[] })).heap.size := by
    have hown : w1.ownsRow base 158 4 v out.length (toksCells out) := by
      refine h.own.kept (row := none) ⟨hb1.os, hb1.tape, hb1.output, hb1.size, fun k hk _ => hb1.block k hk⟩ ?_
      cases hv : v.ownBlock <;> simp
    refine ⟨⟨(hb2.set 2 _).set 1 _, ((h.row.below hb1 h.row.lt).other (p := ⟨Bt, 2, none⟩) (Ne.symm h3) _).other (p := ⟨Bt, 1, none⟩) (Ne.symm h3) _, ownsRow_setCell_below (ownsRow_setCell_below hown (a := ⟨Bt, 2, none⟩) h1 _) (a := ⟨Bt, 1, none⟩) h1 _⟩, ?_, ?_⟩
    · exact ((Fr.of_new hb1).setCell (p := ⟨Bt, 2, none⟩) (.inl (.inl rfl)) _).setCell (p := ⟨Bt, 1, none⟩) (.inl (.inl rfl)) _
    · simpa [World.setCell] using hb1.size
  generalize ((w1.setCell ⟨Bt, 2, none⟩ (.int .i64 m)).setCell ⟨Bt, 1, none⟩ (.string { data := #[] })) = W at *
  obtain ⟨H, hf1, hsz⟩ := H0
  clear hb2 d0 d1 d2 f1 f2 c0 c1 hb h hd
  have hl0 := Lib.hid hl
  clear hl
  have hcell := cell_four_new W (.int .u8 2) (.string { data := #[] }) (.int .i64 m) (.int .i64 a)
  have d0 := H.tok.cell 0
  have d1 := H.tok.cell 1
  have d2 := H.tok.cell 2
  have d3 := H.tok.cell 3
  have o0 := H.row.cell 0
  obtain ⟨i0, hi, hz0, hz1, hz2⟩ := info_parts info_tok
  go_wp2_with (at_builtin; refine wpList_append_own _ rfl _ _ 121 rfl base 158 i0 Tok.zero.agg 4 40 Tryz.underlying121 hi hz0 hz1 hz2 rfl (by decide) _ _ _ rfl (H.own.alloc _) ⟨W.heap.size, 0, none⟩ 1 1 [.int .u8 2, .string { data := #[] }, .int .i64 m, .int .i64 a] rfl rfl (hcell _) ?c2 ?c3 ?c4 ?c5 ?_)
  case c2 => simp [Value.oneCell']
  case c3 => unfold maxLen; have := hl0.out; omega
  case c4 => have := hl0.out; omega
  case c5 => first | omega | (simp; omega)
  intro v' w3 hown hgrow _
  obtain ⟨g', cap', rfl⟩ := owns_succ hown
  obtain ⟨H2, hf2, hBo, hBt⟩ := H.appended h1 h2 h3 hown hgrow
  have e0 := hBo.cell 0
  have e1 := hBo.free 0
  have g0 := hBt.cell 0
  have g1 := hBt.cell 1
  have g2 := hBt.cell 2
  have g3 := hBt.cell 3
  have k0 := hBt.free 0
  have k1 := hBt.free 1
  have k2 := hBt.free 2
  have k3 := hBt.free 3
  go_wp2_with fail
  go_ret
  exact ⟨rfl, ⟨_, (H2.zero h1 h3).1⟩, (hf1.trans hf2).trans (H2.zero h1 h3).2⟩

set_option maxHeartbeats 400000 in
theorem ends_k (Bt Bo base : Nat) (t : Tok) (v : Value) (out : List Tok) (w : World) (h : Held w Bt Bo base t v out) (hk2 : (t.kind == 2) = false) (hk0 : (t.kind != 0) = true) (h1 : Bt < base) (h2 : Bo < base) (h3 : Bt ≠ Bo) (h4 : base ≤ w.heap.size) (hl : out.length < 1000000) :
    Calls Tryz.prog 118 #[.pointer (some ⟨Bt, 0, none⟩), .pointer (some ⟨Bo, 0, none⟩)] w fun e w' => e = .returned (.bool true) ∧ (∃ v', Held w' Bt Bo base Tok.zero v' (out ++ [t])) ∧ Fr (fun k => k = Bt ∨ k = Bo ∨ base ≤ k) w w' := by
  obtain ⟨k, tx, n, a⟩ := t
  simp only at hk2 hk0
  have hb := h.tok
  have c0 := hb.cell 0
  have c1 := hb.cell 1
  go_enter Tryz.func118, Tryz.ntmps118
  go_upto_region 7 with (fail)
  have H := h
  clear c0 c1 hb h
  have hl0 := Lib.hid hl
  clear hl
  have hcell := cell_four_new w (.int .u8 k) (.string tx) (.int .i64 n) (.int .i64 a)
  have d0 := H.tok.cell 0
  have d1 := H.tok.cell 1
  have d2 := H.tok.cell 2
  have d3 := H.tok.cell 3
  have o0 := H.row.cell 0
  obtain ⟨i0, hi, hz0, hz1, hz2⟩ := info_parts info_tok
  go_wp2_with (at_builtin; refine wpList_append_own _ rfl _ _ 121 rfl base 158 i0 Tok.zero.agg 4 40 Tryz.underlying121 hi hz0 hz1 hz2 rfl (by decide) _ _ _ rfl (H.own.alloc _) ⟨w.heap.size, 0, none⟩ 1 1 [.int .u8 k, .string tx, .int .i64 n, .int .i64 a] rfl rfl (hcell _) ?c2 ?c3 ?c4 ?c5 ?_)
  case c2 => simp [Value.oneCell']
  case c3 => unfold maxLen; have := hl0.out; omega
  case c4 => have := hl0.out; omega
  case c5 => first | omega | (simp; omega)
  intro v' w3 hown hgrow _
  obtain ⟨g', cap', rfl⟩ := owns_succ hown
  obtain ⟨H2, hf2, hBo, hBt⟩ := H.appended h1 h2 h3 hown hgrow
  have e0 := hBo.cell 0
  have e1 := hBo.free 0
  have g0 := hBt.cell 0
  have g1 := hBt.cell 1
  have g2 := hBt.cell 2
  have g3 := hBt.cell 3
  have k0 := hBt.free 0
  have k1 := hBt.free 1
  have k2 := hBt.free 2
  have k3 := hBt.free 3
  go_wp2_with fail
  go_ret
  exact ⟨rfl, ⟨_, (H2.zero h1 h3).1⟩, hf2.trans (H2.zero h1 h3).2⟩

theorem digit_runes {tx : ByteArray} (h : ∀ b ∈ tx.data.toList, 48 ≤ b.toNat ∧ b.toNat ≤ 57) : ∀ r ∈ runes tx, 48 ≤ r ∧ r ≤ 57 := by
  rw [runes_ascii tx (fun b hb => by have := h b hb; omega)]
  intro r hr
  obtain ⟨b, hb, rfl⟩ := List.mem_map.1 hr
  have := h b hb
  omega

theorem ends_none (Bt Bo base : Nat) (t : Tok) (v : Value) (out : List Tok) (w : World) (h : Held w Bt Bo base t v out) (h1 : Bt < base) (h2 : Bo < base) (h3 : Bt ≠ Bo) (h4 : base ≤ w.heap.size)
    (hd : t.kind = 2 → ∀ b ∈ t.text.data.toList, 48 ≤ b.toNat ∧ b.toNat ≤ 57) (hn : endTok t out = none) :
    Calls Tryz.prog 118 #[.pointer (some ⟨Bt, 0, none⟩), .pointer (some ⟨Bo, 0, none⟩)] w fun e w' => e = .returned (.bool false) ∧ Fr (fun k => k = Bt ∨ k = Bo ∨ base ≤ k) w w' := by
  unfold endTok at hn
  by_cases hk : t.kind = 2
  · rw [if_pos hk] at hn
    cases hg : numGo 0 (runes t.text) with
    | none => exact ends_2n Bt Bo base t v out w h hk (digit_runes (hd hk)) hg
    | some m => rw [hg] at hn; simp at hn
  · rw [if_neg hk] at hn
    split at hn <;> simp at hn

theorem ends_some (Bt Bo base : Nat) (t : Tok) (v : Value) (out : List Tok) (w : World) (h : Held w Bt Bo base t v out) (h1 : Bt < base) (h2 : Bo < base) (h3 : Bt ≠ Bo) (h4 : base ≤ w.heap.size)
    (hd : t.kind = 2 → ∀ b ∈ t.text.data.toList, 48 ≤ b.toNat ∧ b.toNat ≤ 57) (hl : out.length < 1000000) (o : List Tok) (hn : endTok t out = some o) :
    Calls Tryz.prog 118 #[.pointer (some ⟨Bt, 0, none⟩), .pointer (some ⟨Bo, 0, none⟩)] w fun e w' => e = .returned (.bool true) ∧ (∃ v', Held w' Bt Bo base Tok.zero v' o) ∧ Fr (fun k => k = Bt ∨ k = Bo ∨ base ≤ k) w w' := by
  unfold endTok at hn
  by_cases hk : t.kind = 2
  · rw [if_pos hk] at hn
    cases hg : numGo 0 (runes t.text) with
    | none => rw [hg] at hn; simp at hn
    | some m =>
      rw [hg] at hn
      simp only [Option.some.injEq] at hn
      subst hn
      exact ends_2s Bt Bo base t v out w h hk h1 h2 h3 h4 (digit_runes (hd hk)) m hg hl
  · rw [if_neg hk] at hn
    by_cases h0 : t.kind = 0
    · rw [if_pos h0] at hn
      simp only [Option.some.injEq] at hn
      subst hn
      exact (ends_0 Bt Bo base t v out w h h0 h1 h3).mono fun e w' ⟨he, hH, hf⟩ => ⟨he, ⟨_, hH⟩, hf⟩
    · rw [if_neg h0] at hn
      simp only [Option.some.injEq] at hn
      subst hn
      exact ends_k Bt Bo base t v out w h (by simpa using hk) (by simpa using h0) h1 h2 h3 h4 hl

theorem endTok_length {t : Tok} {out o : List Tok} (h : endTok t out = some o) : o.length ≤ out.length + 1 := by
  unfold endTok at h
  split at h
  · split at h
    · simp at h
    · simp only [Option.some.injEq] at h; subst h; simp
  · split at h
    · simp only [Option.some.injEq] at h; subst h; omega
    · simp only [Option.some.injEq] at h; subst h; simp

end Go.Proofs.YtjbchkgkapccnaaGreatDoor

namespace Go.Proofs.YtjbchkgkapccnaaGreatDoor
open Go.RowKit
set_option linter.unusedVariables false

section
variable {w w' : World} {Bt Bo base : Nat} {t : Tok} {v : Value} {out : List Tok}
theorem Held.below (h : Held w Bt Bo base t v out) (hb : Below w.heap.size w w') : Held w' Bt Bo base t v out :=
  ⟨h.tok.below hb h.tok.lt, h.row.below hb h.row.lt, h.own.kept (row := none) ⟨hb.os, hb.tape, hb.output, hb.size, fun k hk _ => hb.block k hk⟩ (by cases hv : v.ownBlock <;> simp)⟩
theorem Held.iterAt (h : Held w Bt Bo base t v out) {k : Nat} (h1 : Bt ≠ k) (h2 : Bo ≠ k) (h3 : k < base) (s : ByteArray) (pos : Nat) : Held (w.iterAt k s pos) Bt Bo base t v out :=
  ⟨h.tok.iterAt h1 s pos, h.row.iterAt h2 s pos, ownsRow_iterAt h.own h3 s pos⟩
theorem Held.text (h : Held w Bt Bo base t v out) (h1 : Bt < base) (h3 : Bt ≠ Bo) (x : ByteArray) : Held (w.setCell ⟨Bt, 1, none⟩ (.string x)) Bt Bo base { t with text := x } v out :=
  ⟨h.tok.set 1 _, h.row.other (p := ⟨Bt, 1, none⟩) (Ne.symm h3) _, ownsRow_setCell_below h.own (a := ⟨Bt, 1, none⟩) h1 _⟩
theorem Held.put (h : Held w Bt Bo base t v out) (h1 : Bt < base) (h3 : Bt ≠ Bo) (u : Tok) :
    Held ((((w.setCell ⟨Bt, 0, none⟩ (.int .u8 u.kind)).setCell ⟨Bt, 1, none⟩ (.string u.text)).setCell ⟨Bt, 2, none⟩ (.int .i64 u.n)).setCell ⟨Bt, 3, none⟩ (.int .i64 u.at_)) Bt Bo base u v out :=
  ⟨(((h.tok.set 0 _).set 1 _).set 2 _).set 3 _, (((h.row.other (p := ⟨Bt, 0, none⟩) (Ne.symm h3) _).other (p := ⟨Bt, 1, none⟩) (Ne.symm h3) _).other (p := ⟨Bt, 2, none⟩) (Ne.symm h3) _).other (p := ⟨Bt, 3, none⟩) (Ne.symm h3) _,
    ownsRow_setCell_below (ownsRow_setCell_below (ownsRow_setCell_below (ownsRow_setCell_below h.own (a := ⟨Bt, 0, none⟩) h1 _) (a := ⟨Bt, 1, none⟩) h1 _) (a := ⟨Bt, 2, none⟩) h1 _) (a := ⟨Bt, 3, none⟩) h1 _⟩
end

/-- What a call of lex.Tokens (either one) answers. -/
def TokPost (s : ByteArray) (w : World) (e : Ending) (w' : World) : Prop :=
  ∃ v, e = .returned (.tuple #[v, .int .i64 (toks s).2.1, .int .i64 (toks s).2.2]) ∧ Sl w' w'.heap.size 4 v (toks s).1.length (toksCells (toks s).1) ∧ Below w.heap.size w w'

theorem digit_encode (r : Int) (h2 : kindN r = 2) : ∀ b ∈ (Utf8.encode r).data.toList, 48 ≤ b.toNat ∧ b.toNat ≤ 57 := by
  intro b hb
  have hr : 48 ≤ r ∧ r ≤ 57 := by
    unfold kindN at h2
    by_cases h0 : 48 ≤ r ∧ r ≤ 57
    · exact h0
    · rw [if_neg h0] at h2
      split at h2
      · omega
      · split at h2 <;> omega
  have he : (Utf8.encode r).data.toList = [UInt8.ofNat r.toNat] := by
    unfold Utf8.encode
    have hv : Utf8.valid r = true := by rw [validRune_eq]; unfold validRune; simp; omega
    rw [if_pos hv]
    dsimp only
    rw [if_pos (by omega)]
  rw [he] at hb
  simp only [List.mem_singleton] at hb
  subst hb
  rw [UInt8.toNat_ofNat']
  omega
theorem digits_one (r : Int) : kindN r = 2 → ∀ b ∈ (Utf8.encode r).data.toList, 48 ≤ b.toNat ∧ b.toNat ≤ 57 := digit_encode r
theorem digits_snoc (k : Int) (tx : ByteArray) (r : Int) (h : k = 2 → ∀ b ∈ tx.data.toList, 48 ≤ b.toNat ∧ b.toNat ≤ 57) (hg : goesB k tx r = true) :
    k = 2 → ∀ b ∈ (tx ++ Utf8.encode r).data.toList, 48 ≤ b.toNat ∧ b.toNat ≤ 57 := by
  rintro rfl b hb
  have h2 : kindN r = 2 := by unfold goesB at hg; simpa using hg
  rw [ByteArray.data_append, Array.toList_append, List.mem_append] at hb
  rcases hb with hb | hb
  · exact h rfl b hb
  · exact digit_encode r h2 b hb

/-- Between two runes. -/
structure TokRel (s : ByteArray) (w : World) (i : Value) (wr : World) : Prop where
  ex : ∃ (t : Tok) (v : Value) (out : List Tok) (pos : Nat) (k : Int), i = .int .i64 k ∧ wr.heap[w.heap.size + 2]? = some (.stringIter s pos) ∧
    Held wr (w.heap.size + 1) w.heap.size (w.heap.size + 3) t v out ∧ Below w.heap.size w wr ∧ w.heap.size + 3 ≤ wr.heap.size ∧
    (t.kind = 2 → ∀ b ∈ t.text.data.toList, 48 ≤ b.toNat ∧ b.toNat ≤ 57) ∧ out.length + (runesAt s pos).length ≤ 400 ∧ -1 ≤ k ∧ k + (runesAt s pos).length ≤ 400 ∧
    t.text.size + 4 * (runesAt s pos).length ≤ 1600 ∧ tokGo t k out (runesAt s pos) = toks s

set_option maxHeartbeats 1000000 in
theorem Tokens_c (s : ByteArray) (w : World) : Calls Tryz.prog 80 #[.string s] w (TokPost s w) := by
  by_cases h400 : 400 < s.size
  · have h4 : (400 : Int) < (s.size : Int) := by omega
    have hP : TokPost s w (.returned (.tuple #[.slice none 0 0, .int .i64 0, .int .i64 3])) w := by
      unfold TokPost toks
      rw [if_pos h400]
      exact ⟨_, rfl, Sl.nil _ _ _, Below.refl _ _⟩
    have HP := Lib.hid hP
    clear hP
    go_enter Tryz.func80, Tryz.ntmps80
    go_wp2
    go_step3
    go_wp2
    rw [Exit.noGoto_ret]
    go_ret3
    exact HP.out
  · have h4 : ¬ (400 : Int) < (s.size : Int) := by omega
    have hmf : ∀ (fn : Fn) (first cap : Array Value) (w : World), (Instr.makeFunc fn first cap).run Tryz.prog w = .ok (.func fn first cap) w := fun _ _ _ _ => rfl
    go_enter Tryz.func80, Tryz.ntmps80
    go_wp2_with fail
    go_step3
    go_wp2_with fail
    go_step3
    go_wp2_with fail
    go_loopw [8] (fun i wr => TokRel s w i wr) (fun _ wr => s.size - wr.iterPos (w.heap.size + 2))
    case atStart =>
      refine ⟨⟨Tok.zero, .slice none 0 0, [], 0, -1, rfl, ?_, ⟨?_, ?_, ?_⟩, ?_, ?_, ?_, ?_, ?_, ?_, ?_, ?_⟩⟩
      · exact heap_new_at _ _ (by simp)
      · exact (Blk.new_at _ _ _ (by simp)).alloc _
      · exact ((Blk.new _ _ _).alloc _).alloc _
      · exact World.ownsRow_nil _ _ _ _
      · exact (((Below.refl _ _).alloc (Nat.le_refl _) _).alloc (by simp) _).alloc (by simp; omega) _
      · simp [World.iter]
      · intro h; exact absurd h (by decide)
      · have := runesAt_length s 0; simp; omega
      · omega
      · have := runesAt_length s 0; omega
      · have := runesAt_length s 0; show 0 + 4 * _ ≤ 1600; omega
      · unfold toks; rw [if_neg h400]; rfl
    case round =>
      obtain ⟨t, v, out, pos, k, rfl, hit, hH, hB, hsz, hdig, ho, hk1, hk2, htx, hgo⟩ := hrel.ex
      have hH1 := hH.iterAt (k := w.heap.size + 2) (by omega) (by omega) (by omega) s (pos + (Utf8.decode s pos).2)
      have hB1 := Lib.below_iterAt hB (k := w.heap.size + 2) (by omega) s (pos + (Utf8.decode s pos).2)
      have hit1 := Lib.iterAt_heap wr (w.heap.size + 2) s pos (pos + (Utf8.decode s pos).2) hit
      have hsz1 : w.heap.size + 3 ≤ (wr.iterAt (w.heap.size + 2) s (pos + (Utf8.decode s pos).2)).heap.size := by rw [Lib.iterAt_size]; exact hsz
      by_cases hp : pos < s.size
      · have hnx : ∀ ty, (Instr.next (.pointer (some ⟨w.heap.size + 2, 0, none⟩)) true ty).run Tryz.prog wr = _ := fun ty => Lib.run_next_any_at wr (w.heap.size + 2) s pos ty hit hp
        rw [runesAt_step s pos hp] at hgo ho hk2 htx
        generalize hpos1 : pos + (Utf8.decode s pos).2 = pos1 at *
        generalize hW : wr.iterAt (w.heap.size + 2) s pos1 = W at *
        generalize hR : ((Utf8.decode s pos).1 : Int) = r at *
        have HPOS := Lib.hid hpos1
        have HW := Lib.hid hW
        have HR := Lib.hid hR
        clear hpos1 hW hR
        simp only [List.length_cons] at ho hk2 htx
        have HGO := Lib.hid hgo
        have HIT := Lib.hid hit1
        have HDIG := Lib.hid hdig
        have hIT0 := Lib.hid hit
        clear hgo hit1 hdig hit hH
        obtain ⟨tk, tx, tn, ta⟩ := t
        have c0 := hH1.tok.cell 0
        have c1 := hH1.tok.cell 1
        have c2 := hH1.tok.cell 2
        have c3 := hH1.tok.cell 3
        cases hg : goesB tk tx r
        all_goals
          have HG := Lib.hid hg
          clear hg
        · have hgo2 := HGO.out
          simp only [tokGo] at hgo2
          rw [if_neg (by rw [HG.out]; decide)] at hgo2
          cases hend : endTok ⟨tk, tx, tn, ta⟩ out with
          | none =>
            have HEND := Lib.hid hend
            rw [hend] at hgo2
            have HGO2 := Lib.hid hgo2
            clear hend hgo2
            go_wp2_with (first
              | (go_at_call 120; refine (goes_c _ _ _ _ _ _).mono ?_; rintro e w1 ⟨rfl, hb1⟩; rw [HG.out]; have hH2 := hH1.below hb1; have d3 := hH2.tok.cell 3)
              | (go_at_call 118; refine (ends_none _ _ _ _ _ _ _ hH2 (by omega) (by omega) (by omega) (by have := hb1.size; omega) HDIG.out HEND.out).mono ?_; rintro e w2 ⟨rfl, hf2⟩))
            rw [Exit.noGoto_ret]
            go_ret3
            have hg := HGO2.out
            unfold TokPost
            rw [← hg]
            exact ⟨_, rfl, Sl.nil _ _ _, (hB1.trans (hb1.mono (by omega))).trans (hf2.below (by have := hb1.size; omega) (by omega))⟩
          | some o =>
            have hol := endTok_length hend
            have HEND := Lib.hid hend
            rw [hend] at hgo2
            dsimp only at hgo2
            by_cases hbl : r = 32 ∨ r = 9
            · rw [if_pos hbl] at hgo2
              have hbl2 : ((r == 32) || (r == 9)) = true := by simpa using hbl
              have HBL := Lib.hid hbl
              have HGO2 := Lib.hid hgo2
              clear hend hgo2 hbl
              go_wp2_with (first
                | (go_at_call 120; refine (goes_c _ _ _ _ _ _).mono ?_; rintro e w1 ⟨rfl, hb1⟩; rw [HG.out]; have hH2 := hH1.below hb1; have d3 := hH2.tok.cell 3)
                | (go_at_call 118; refine (ends_some _ _ _ _ _ _ _ hH2 (by omega) (by omega) (by omega) (by have := hb1.size; omega) HDIG.out (by omega) o HEND.out).mono ?_; rintro e w2 ⟨rfl, ⟨v2, hH3⟩, hf2⟩))
              all_goals
                have hit2 : w2.heap[w.heap.size + 2]? = some (.stringIter s pos1) := by
                  rw [hf2.block _ (by have := hb1.size; omega) (by omega), hb1.block _ (by omega)]; exact HIT.out
                have hB2 : Below w.heap.size w w2 := (hB1.trans (hb1.mono (by omega))).trans (hf2.below (by have := hb1.size; omega) (by omega))
                have hsz2 : w.heap.size + 3 ≤ w2.heap.size := by have := hb1.size; have := hf2.size; omega
                go_roundw
                case rel => exact ⟨⟨Tok.zero, v2, o, pos1, k + 1, rfl, hit2, hH3, hB2, hsz2, fun h => absurd h (by decide), by omega, by omega, by omega, (by show 0 + 4 * _ ≤ 1600; omega), HGO2.out⟩⟩
                case measure =>
                  have hwd := Lib.decode_width_pos s pos hp
                  rw [iterPos_of hIT0.out, iterPos_of hit2]
                  have := HPOS.out
                  omega
            · rw [if_neg hbl] at hgo2
              by_cases hk0 : kindN r = 0
              all_goals
                have hbl2 : ¬ r = 32 := fun h => hbl (.inl h)
                have hbl3 : (r == 9) = false := by rw [beq_eq_false_iff_ne]; exact fun h => hbl (.inr h)
                have hbl4 : (r == 32) = false := by rw [beq_eq_false_iff_ne]; exact hbl2
              · rw [if_pos hk0] at hgo2
                have HGO2 := Lib.hid hgo2
                have HK := Lib.hid hk0
                clear hend hgo2 hbl hk0
                go_wp2_with (first
                  | (go_at_call 120; refine (goes_c _ _ _ _ _ _).mono ?_; rintro e w1 ⟨rfl, hb1⟩; rw [HG.out]; have hH2 := hH1.below hb1; have d3 := hH2.tok.cell 3)
                  | (go_at_call 118; refine (ends_some _ _ _ _ _ _ _ hH2 (by omega) (by omega) (by omega) (by have := hb1.size; omega) HDIG.out (by omega) o HEND.out).mono ?_; rintro e w2 ⟨rfl, ⟨v2, hH3⟩, hf2⟩)
                  | (go_at_call 121; refine (kind_c _ _).mono ?_; rintro e w3 ⟨rfl, hb3⟩; rw [HK.out]; have hH4 := hH3.below hb3; have m0 := hH4.tok.cell 0; have m1 := hH4.tok.cell 1; have m2 := hH4.tok.cell 2; have m3 := hH4.tok.cell 3; have n0 := hH4.tok.free 0; have n1 := hH4.tok.free 1; have n2 := hH4.tok.free 2; have n3 := hH4.tok.free 3))
                rw [Exit.noGoto_ret]
                go_ret3
                have hg := HGO2.out
                unfold TokPost
                rw [← hg]
                refine ⟨_, rfl, Sl.nil _ _ _, ?_⟩
                have hB2 : Below w.heap.size w w2 := (hB1.trans (hb1.mono (by omega))).trans (hf2.below (by have := hb1.size; omega) (by omega))
                exact ((((hB2.trans (hb3.mono hB2.size)).setCell (by simp) _).setCell (by simp) _).setCell (by simp) _).setCell (by simp) _
              · rw [if_neg hk0] at hgo2
                have HGO2 := Lib.hid hgo2
                have hk1' : (kindN r == 0) = false := by simpa using hk0
                have HK := Lib.hid hk0
                clear hend hgo2 hbl hk0
                go_wp2_with (first
                  | (go_at_call 120; refine (goes_c _ _ _ _ _ _).mono ?_; rintro e w1 ⟨rfl, hb1⟩; rw [HG.out]; have hH2 := hH1.below hb1; have d3 := hH2.tok.cell 3)
                  | (go_at_call 118; refine (ends_some _ _ _ _ _ _ _ hH2 (by omega) (by omega) (by omega) (by have := hb1.size; omega) HDIG.out (by omega) o HEND.out).mono ?_; rintro e w2 ⟨rfl, ⟨v2, hH3⟩, hf2⟩)
                  | (go_at_call 121; refine (kind_c _ _).mono ?_; rintro e w3 ⟨rfl, hb3⟩; skip; have hH4 := hH3.below hb3; have m0 := hH4.tok.cell 0; have m1 := hH4.tok.cell 1; have m2 := hH4.tok.cell 2; have m3 := hH4.tok.cell 3; have n0 := hH4.tok.free 0; have n1 := hH4.tok.free 1; have n2 := hH4.tok.free 2; have n3 := hH4.tok.free 3))
                have hes := encode_size r
                have hP := hH4.put (by omega) (by omega) ⟨kindN r, Utf8.encode r, 0, k + 1⟩
                have hB2 : Below w.heap.size w w2 := (hB1.trans (hb1.mono (by omega))).trans (hf2.below (by have := hb1.size; omega) (by omega))
                have hB5 := (((((hB2.trans (hb3.mono hB2.size)).setCell (p := ⟨w.heap.size + 1, 0, none⟩) (by simp) (.int .u8 (kindN r))).setCell (p := ⟨w.heap.size + 1, 1, none⟩) (by simp) (.string (Utf8.encode r))).setCell (p := ⟨w.heap.size + 1, 2, none⟩) (by simp) (.int .i64 0)).setCell (p := ⟨w.heap.size + 1, 3, none⟩) (by simp) (.int .i64 (k + 1)))
                have hit2 : w2.heap[w.heap.size + 2]? = some (.stringIter s pos1) := by
                  rw [hf2.block _ (by have := hb1.size; omega) (by omega), hb1.block _ (by omega)]; exact HIT.out
                have hsz2 : w.heap.size + 3 ≤ w3.heap.size := by have := hb1.size; have := hf2.size; have := hb3.size; omega
                have hit3 : w3.heap[w.heap.size + 2]? = some (.stringIter s pos1) := by
                  rw [hb3.block _ (by have := hb1.size; have := hf2.size; omega)]; exact hit2
                have hit4 : ((((w3.setCell ⟨w.heap.size + 1, 0, none⟩ (.int .u8 (kindN r))).setCell ⟨w.heap.size + 1, 1, none⟩ (.string (Utf8.encode r))).setCell ⟨w.heap.size + 1, 2, none⟩ (.int .i64 0)).setCell ⟨w.heap.size + 1, 3, none⟩ (.int .i64 (k + 1))).heap[w.heap.size + 2]? = some (.stringIter s pos1) := by
                  rw [heap_setCell_other _ _ _ _ (by simp), heap_setCell_other _ _ _ _ (by simp), heap_setCell_other _ _ _ _ (by simp), heap_setCell_other _ _ _ _ (by simp)]; exact hit3
                go_roundw
                case rel => exact ⟨⟨⟨kindN r, Utf8.encode r, 0, k + 1⟩, v2, o, pos1, k + 1, rfl, hit4, hP, hB5, (by simpa [World.setCell] using hsz2), digits_one r, by omega, by omega, by omega, (by show (Utf8.encode r).size + 4 * _ ≤ 1600; omega), HGO2.out⟩⟩
                case measure =>
                  have hwd := Lib.decode_width_pos s pos hp
                  rw [iterPos_of hIT0.out, iterPos_of hit4]
                  have := HPOS.out
                  omega
        · have hes := encode_size r
          go_wp2_with (go_at_call 120; refine (goes_c _ _ _ _ _ _).mono ?_; rintro e w1 ⟨rfl, hb1⟩; rw [HG.out]; have hH2 := hH1.below hb1; have d1 := hH2.tok.cell 1; have f1 := hH2.tok.free 1)
          go_roundw
          case rel =>
            have hgo2 := HGO.out
            simp only [tokGo] at hgo2
            rw [if_pos HG.out] at hgo2
            refine ⟨⟨⟨tk, tx ++ Utf8.encode r, tn, ta⟩, v, out, pos1, k + 1, rfl, ?_, hH2.text (by omega) (by omega) _, ?_, ?_, ?_, by omega, by omega, by omega, ?_, hgo2⟩⟩
            · rw [heap_setCell_other _ _ _ _ (by simp), hb1.block _ (by omega)]; exact HIT.out
            · exact (hB1.trans (hb1.mono (by omega))).setCell (by simp) _
            · have := hb1.size; simp [World.setCell]; omega
            · exact digits_snoc tk tx r HDIG.out HG.out
            · simp only [ByteArray.size_append]; omega
          case measure =>
            have hwd := Lib.decode_width_pos s pos hp
            have hit2 : (w1.setCell ⟨w.heap.size + 1, 1, none⟩ (.string (tx ++ Utf8.encode r))).heap[w.heap.size + 2]? = some (.stringIter s pos1) := by
              rw [heap_setCell_other _ _ _ _ (by simp), hb1.block _ (by omega)]; exact HIT.out
            rw [iterPos_of hIT0.out, iterPos_of hit2]
            have := HPOS.out
            omega
      · have hnx : ∀ ty, (Instr.next (.pointer (some ⟨w.heap.size + 2, 0, none⟩)) true ty).run Tryz.prog wr = _ := fun ty => Lib.run_next_end_at wr (w.heap.size + 2) s pos ty hit hp
        rw [runesAt_end s pos hp] at hgo ho hk2 htx
        simp only [List.length_nil] at ho hk2 htx
        have HDIG := Lib.hid hdig
        clear hdig hit1 hH1 hB1 hsz1 hit
        obtain ⟨tk, tx, tn, ta⟩ := t
        have d3 := hH.tok.cell 3
        simp only [tokGo] at hgo
        cases hend : endTok ⟨tk, tx, tn, ta⟩ out with
        | none =>
          have HEND := Lib.hid hend
          rw [hend] at hgo
          have HGO2 := Lib.hid hgo
          clear hend hgo
          go_wp2_with (go_at_call 118; refine (ends_none _ _ _ _ _ _ _ hH (by omega) (by omega) (by omega) (by omega) HDIG.out HEND.out).mono ?_; rintro e w2 ⟨rfl, hf2⟩)
          rw [Exit.noGoto_ret]
          go_ret3
          have hg := HGO2.out
          unfold TokPost
          rw [← hg]
          exact ⟨_, rfl, Sl.nil _ _ _, hB.trans (hf2.below (by omega) (by omega))⟩
        | some o =>
          have HEND := Lib.hid hend
          rw [hend] at hgo
          have HGO2 := Lib.hid hgo
          clear hend hgo
          go_wp2_with (go_at_call 118; refine (ends_some _ _ _ _ _ _ _ hH (by omega) (by omega) (by omega) (by omega) HDIG.out (by omega) o HEND.out).mono ?_; rintro e w2 ⟨rfl, ⟨v2, hH3⟩, hf2⟩; have q0 := hH3.row.cell 0)
          rw [Exit.noGoto_ret]
          go_ret3
          have hg := HGO2.out
          unfold TokPost
          rw [← hg]
          exact ⟨_, rfl, Sl.of_owns hH3.own, hB.trans (hf2.below (by omega) (by omega))⟩

end Go.Proofs.YtjbchkgkapccnaaGreatDoor

namespace Go.Proofs.YtjbchkgkapccnaaGreatDoor
open Go.RowKit
set_option linter.unusedVariables false

/-- The texts of signs. -/
def signTexts : List (List UInt8) := [[43], [45], [42], [47], [37], [40], [41], [38], [124], [33], [61], [60], [33, 61], [60, 61]]

/-- What a token of lex.Tokens is like. -/
structure TokWf (t : Tok) : Prop where
  at_ : 0 ≤ t.at_
  n : 0 ≤ t.n
  kind : t.kind = 1 ∨ t.kind = 2 ∨ t.kind = 3
  sign : t.kind = 3 → t.text.toList ∈ signTexts
  name : t.kind = 1 → ∃ (r : Int) (rest : ByteArray), kindN r = 1 ∧ t.text = Utf8.encode r ++ rest

/-- What the token that goes on is like. -/
structure TokCur (t : Tok) : Prop where
  n : t.n = 0
  kind : t.kind = 0 ∨ t.kind = 1 ∨ t.kind = 2 ∨ t.kind = 3
  digits : t.kind = 2 → ∀ b ∈ t.text.data.toList, 48 ≤ b.toNat ∧ b.toNat ≤ 57
  sign : t.kind = 3 → t.text.toList ∈ signTexts
  name : t.kind = 1 → ∃ (r : Int) (rest : ByteArray), kindN r = 1 ∧ t.text = Utf8.encode r ++ rest

theorem kindN_cases (r : Int) : kindN r = 0 ∨ kindN r = 1 ∨ kindN r = 2 ∨ kindN r = 3 := by
  unfold kindN
  repeat' split
  all_goals simp

theorem numGo_nonneg : ∀ (rs : List Int) (n m : Int), 0 ≤ n → (∀ r ∈ rs, 48 ≤ r) → numGo n rs = some m → 0 ≤ m
  | [], n, m, hn, _, h => by simp only [numGo, Option.some.injEq] at h; omega
  | r :: rs, n, m, hn, hr, h => by
    simp only [numGo] at h
    split at h
    · simp at h
    · have := hr r (by simp)
      exact numGo_nonneg rs _ m (by omega) (fun x hx => hr x (by simp [hx])) h

theorem encode_sign (r : Int) (h : signB r = true) : (Utf8.encode r).toList ∈ signTexts := by
  have h' : r = 43 ∨ r = 45 ∨ r = 42 ∨ r = 47 ∨ r = 37 ∨ r = 40 ∨ r = 41 ∨ r = 38 ∨ r = 124 ∨ r = 33 ∨ r = 61 ∨ r = 60 := by simpa [signB] using h
  rcases h' with rfl | rfl | rfl | rfl | rfl | rfl | rfl | rfl | rfl | rfl | rfl | rfl <;> decide +kernel
theorem kindN_sign {r : Int} (h : kindN r = 3) : signB r = true := by
  unfold kindN at h
  split at h
  · omega
  · split at h
    · assumption
    · split at h <;> omega

theorem toList_append (a b : ByteArray) : (a ++ b).toList = a.toList ++ b.toList := by
  rw [ByteArray.toList_eq, ByteArray.toList_eq, ByteArray.toList_eq]
  simp [ByteArray.data_append]

theorem TokCur.zero : TokCur Tok.zero := ⟨rfl, .inl rfl, fun h => absurd h (by decide), fun h => absurd h (by decide), fun h => absurd h (by decide)⟩
theorem TokCur.new (r : Int) (p : Int) : TokCur ⟨kindN r, Utf8.encode r, 0, p⟩ :=
  ⟨rfl, kindN_cases r, digits_one r, fun h => encode_sign r (kindN_sign h), fun h => ⟨r, ByteArray.empty, h, by simp⟩⟩
theorem TokCur.goes {t : Tok} (h : TokCur t) (r : Int) (hg : goesB t.kind t.text r = true) : TokCur { t with text := t.text ++ Utf8.encode r } := by
  refine ⟨h.n, h.kind, digits_snoc t.kind t.text r h.digits hg, fun hk => ?_, fun hk => ?_⟩
  · have hk3 : t.kind = 3 := hk
    unfold goesB at hg
    rw [if_pos hk3] at hg
    simp only [Bool.and_eq_true, Bool.or_eq_true, decide_eq_true_eq] at hg
    obtain ⟨rfl, hg⟩ := hg
    show (t.text ++ Utf8.encode 61).toList ∈ _
    rw [toList_append]
    rcases hg with hg | hg <;> rw [hg] <;> decide +kernel
  · obtain ⟨r0, rest, h1, h2⟩ := h.name hk
    exact ⟨r0, rest ++ Utf8.encode r, h1, by show t.text ++ _ = _; rw [h2, ByteArray.append_assoc]⟩

theorem endTok_wf {t : Tok} (h : TokCur t) (ha : 0 ≤ t.at_) {out o : List Tok} (ho : ∀ u ∈ out, TokWf u) (he : endTok t out = some o) : ∀ u ∈ o, TokWf u := by
  unfold endTok at he
  by_cases hk : t.kind = 2
  · rw [if_pos hk] at he
    cases hm : numGo 0 (runes t.text) with
    | none => rw [hm] at he; simp at he
    | some m =>
      rw [hm] at he
      simp only [Option.some.injEq] at he
      subst he
      intro u hu
      rcases List.mem_append.1 hu with hu | hu
      · exact ho u hu
      · simp only [List.mem_singleton] at hu
        subst hu
        have hd := digit_runes (h.digits hk)
        exact ⟨ha, numGo_nonneg _ 0 m (by omega) (fun r hr => (hd r hr).1) hm, .inr (.inl rfl), fun h => absurd h (by simp), fun h => absurd h (by simp)⟩
  · rw [if_neg hk] at he
    by_cases h0 : t.kind = 0
    · rw [if_pos h0] at he
      simp only [Option.some.injEq] at he
      subst he
      exact ho
    · rw [if_neg h0] at he
      simp only [Option.some.injEq] at he
      subst he
      intro u hu
      rcases List.mem_append.1 hu with hu | hu
      · exact ho u hu
      · simp only [List.mem_singleton] at hu
        subst hu
        refine ⟨ha, by rw [h.n]; omega, ?_, h.sign, h.name⟩
        rcases h.kind with h1 | h1
        · exact absurd h1 h0
        · exact h1

theorem tokGo_wf : ∀ (rs : List Int) (t : Tok) (pos : Int) (out : List Tok), TokCur t → 0 ≤ t.at_ → -1 ≤ pos → (∀ u ∈ out, TokWf u) →
    (∀ u ∈ (tokGo t pos out rs).1, TokWf u) ∧ 0 ≤ (tokGo t pos out rs).2.1
  | [], t, pos, out, ht, ha, hp, ho => by
    simp only [tokGo]
    cases he : endTok t out with
    | none => exact ⟨by simp, ha⟩
    | some o => exact ⟨endTok_wf ht ha ho he, Int.le_refl 0⟩
  | r :: rs, t, pos, out, ht, ha, hp, ho => by
    simp only [tokGo]
    split
    · exact tokGo_wf rs _ _ _ (ht.goes r (by assumption)) ha (by omega) ho
    · cases he : endTok t out with
      | none => exact ⟨by simp, ha⟩
      | some o =>
        dsimp only
        have ho2 := endTok_wf ht ha ho he
        split
        · exact tokGo_wf rs _ _ _ TokCur.zero (Int.le_refl 0) (by omega) ho2
        · split
          · exact ⟨by simp, by show 0 ≤ pos + 1; omega⟩
          · exact tokGo_wf rs _ _ _ (TokCur.new r _) (by show 0 ≤ pos + 1; omega) (by omega) ho2

theorem toks_wf (s : ByteArray) : (∀ u ∈ (toks s).1, TokWf u) ∧ 0 ≤ (toks s).2.1 := by
  unfold toks
  split
  · exact ⟨by simp, Int.le_refl 0⟩
  · exact tokGo_wf _ _ _ _ TokCur.zero (Int.le_refl 0) (by omega) (by simp)

/-- All tokens of a state are as tokens are. -/
def PSt.Wf (st : PSt) : Prop := (∀ u ∈ st.l, TokWf u) ∧ ∀ b, st.bad = some b → 0 ≤ b

theorem PSt.Wf.next {st : PSt} (h : st.Wf) : st.next.Wf := ⟨fun u hu => h.1 u (List.mem_of_mem_drop hu), h.2⟩
theorem PSt.Wf.fails {st : PSt} (h : st.Wf) {E : Int} (hE : 0 ≤ E) : (st.fails E).Wf := by
  obtain ⟨l, b⟩ := st
  cases b with
  | some b => exact h
  | none =>
    refine ⟨h.1, fun b hb => ?_⟩
    simp only [PSt.fails, Option.some.injEq] at hb
    subst hb
    cases l with
    | nil => exact hE
    | cons t l => exact (h.1 t (by simp)).at_
theorem PSt.Wf.must {st : PSt} (h : st.Wf) {E : Int} (hE : 0 ≤ E) (s : List UInt8) : (st.must E s).Wf := by
  unfold PSt.must
  split
  · exact h.next
  · exact h.fails hE

mutual
/-- All of its parts have the shape that they may have. -/
def Ex.shp : Ex → Bool
  | .mk o n l => shapeB (.mk o n l) && Exs.shp l
def Exs.shp : List Ex → Bool
  | [] => true
  | x :: l => x.shp && Exs.shp l
end
theorem Exs.shp_all : ∀ l : List Ex, Exs.shp l = l.all Ex.shp
  | [] => rfl
  | x :: l => by simp only [Exs.shp, List.all_cons]; rw [Exs.shp_all l]
theorem Ex.shp_eq (x : Ex) : x.shp = (shapeB x && x.args.all Ex.shp) := by
  obtain ⟨o, n, l⟩ := x
  simp only [Ex.shp, Ex.args]
  rw [Exs.shp_all]

theorem foldl_max_le (f : Ex → Nat) : ∀ (l : List Ex) (m k : Nat), l.foldl (fun n a => max n (f a)) m ≤ k → m ≤ k ∧ ∀ a ∈ l, f a ≤ k
  | [], m, k, h => ⟨h, by simp⟩
  | x :: l, m, k, h => by
    obtain ⟨h1, h2⟩ := foldl_max_le f l _ k h
    have h1' : max m (f x) ≤ k := h1
    refine ⟨by have := Nat.le_max_left m (f x); omega, fun a ha => ?_⟩
    rcases List.mem_cons.1 ha with rfl | ha
    · have := Nat.le_max_right m (f a); omega
    · exact h2 a ha

theorem mayB_of : ∀ (k : Nat) (x : Ex), x.shp = true → deepN k x ≤ k → mayB k x = true
  | 0, x, _, h => by simp [deepN] at h
  | k + 1, x, hs, h => by
    rw [Ex.shp_eq, Bool.and_eq_true] at hs
    simp only [deepN] at h
    have h2 := (foldl_max_le (deepN k) x.args 0 k (by omega)).2
    simp only [mayB]
    rw [hs.1, Bool.true_and, List.all_eq_true]
    exact fun a ha => mayB_of k a (List.all_eq_true.1 hs.2 a ha) (h2 a ha)

/-- What a rule leaves: good, if it did not go wrong; it goes wrong once. -/
structure Good (st : PSt) (p : Ex × PSt) : Prop where
  wf : p.2.Wf
  good : p.2.bad = none → st.bad = none ∧ p.1.shp = true

theorem PSt.fails_bad (E : Int) (st : PSt) : (st.fails E).bad ≠ none := by
  obtain ⟨l, b⟩ := st
  cases b <;> simp [PSt.fails]
theorem PSt.must_good {E : Int} {st : PSt} {s : List UInt8} (h : (st.must E s).bad = none) : st.bad = none := by
  unfold PSt.must at h
  split at h
  · exact h
  · exact absurd h (PSt.fails_bad E st)

theorem rowL_good {one : PSt → Ex × PSt} (h1 : ∀ st, st.Wf → Good st (one st)) {sg : List (List UInt8 × Int)} (hsg : ∀ p ∈ sg, manyN p.2 = 2 ∧ p.2 ≠ 1) : ∀ (c : Nat) (x : Ex) (st st0 : PSt), Good st0 (x, st) → Good st0 (rowL one sg c x st)
  | 0, x, st, st0, h => h
  | c + 1, x, st, st0, h => by
    simp only [rowL]
    split
    · exact h
    · cases hg : signOf st sg with
      | none => exact h
      | some o =>
        dsimp only
        have hg1 := h1 st.next h.wf.next
        refine rowL_good h1 hsg c _ _ st0 ⟨hg1.wf, fun hb => ?_⟩
        obtain ⟨q1, q2⟩ := hg1.good hb
        obtain ⟨q3, q4⟩ := h.good q1
        refine ⟨q3, ?_⟩
        have ho : ∃ p ∈ sg, p.2 = o := by
          clear h hg1 q1 q2 q3 q4 hb h1 hsg
          induction sg with
          | nil => simp [signOf] at hg
          | cons p r ih =>
            obtain ⟨s, o'⟩ := p
            simp only [signOf] at hg
            split at hg
            · exact ⟨(s, o'), by simp, by simpa using hg⟩
            · obtain ⟨p, hp, he⟩ := ih hg
              exact ⟨p, by simp [hp], he⟩
        obtain ⟨p, hp, rfl⟩ := ho
        have hm := hsg p hp
        rw [Ex.shp_eq]
        simp only [Ex.args, List.all_cons, List.all_nil, Bool.and_true]
        rw [q2, q4]
        simp [shapeB, Ex.op, Ex.n, Ex.args, hm.1]

theorem lvSigns_ok (lv : Nat) : ∀ p ∈ lvSigns lv, manyN p.2 = 2 ∧ p.2 ≠ 1 := by
  match lv with
  | 0 => decide
  | 1 => decide
  | 2 => decide
  | 3 => decide
  | n + 4 => simp only [lvSigns]; decide

theorem shp_zero_args (op : Int) (h : manyN op = 0) : (Ex.mk op 0 []).shp = true := by simp [Ex.shp, Exs.shp, shapeB, Ex.op, Ex.n, Ex.args, h]

theorem prF_good (E : Int) (hE : 0 ≤ E) (N : Nat) : ∀ (lv : Nat) (st : PSt), st.need lv ≤ N → lv ≤ 6 → st.Wf → Good st (prF E lv st) := by
  induction N using Nat.strongRecOn with
  | ind N ih =>
    intro lv st hn hlv hw
    unfold PSt.need at hn
    have ih' : ∀ (lv' : Nat) (st' : PSt), 8 * st'.l.length + (7 - lv') < N → lv' ≤ 6 → st'.Wf → Good st' (prF E lv' st') := fun lv' st' h1 h2 h3 => ih _ h1 lv' st' (Nat.le_refl _) h2 h3
    by_cases h5 : lv < 5
    · rw [prF_row E lv st h5]
      -- the rule of the next level, at states that are no longer than st
      let f : PSt → Ex × PSt := fun s => if s.l.length ≤ st.l.length then prF E (lv + 1) s else (Ex.zero, ⟨[], some 0⟩)
      have hf : ∀ s, s.Wf → Good s (f s) := by
        intro s hs
        by_cases hl : s.l.length ≤ st.l.length
        · show Good s (if _ then _ else _)
          rw [if_pos hl]
          exact ih' (lv + 1) s (by omega) (by omega) hs
        · show Good s (if _ then _ else _)
          rw [if_neg hl]
          exact ⟨⟨by simp, fun b hb => by simp at hb; omega⟩, fun h => absurd h (by simp)⟩
      rw [rowL_congr (one := prF E (lv + 1)) (one' := f) (prF_len E (lv + 1)) _ st.l.length (fun s hs => by show _ = if _ then _ else _; rw [if_pos (by omega)]) _ _ _ (prF_len E (lv + 1) st)]
      exact rowL_good hf (lvSigns_ok lv) _ _ _ st (ih' (lv + 1) st (by omega) (by omega) hw)
    · by_cases h6 : lv = 5
      · subst h6
        rw [prF_unary]
        unfold prUnary
        split
        · rename_i hs
          have hl := PSt.next_lt hs
          have hg := ih' 5 st.next (by omega) (by omega) hw.next
          refine ⟨hg.wf, fun hb => ⟨(hg.good hb).1, ?_⟩⟩
          rw [Ex.shp_eq]
          simp only [Ex.args, List.all_cons, List.all_nil, Bool.and_true]
          rw [(hg.good hb).2]
          simp [shapeB, Ex.op, Ex.n, Ex.args, manyN]
        · split
          · rename_i _ hs
            have hl := PSt.next_lt hs
            have hg := ih' 5 st.next (by omega) (by omega) hw.next
            refine ⟨hg.wf, fun hb => ⟨(hg.good hb).1, ?_⟩⟩
            rw [Ex.shp_eq]
            simp only [Ex.args, List.all_cons, List.all_nil, Bool.and_true]
            rw [(hg.good hb).2]
            simp [shapeB, Ex.op, Ex.n, Ex.args, manyN]
          · exact ih' 6 st (by omega) (by omega) hw
      · obtain rfl : lv = 6 := by omega
        rw [prF_one]
        unfold prOne
        split
        · rename_i hb
          exact ⟨hw, fun h => by rw [h] at hb; simp at hb⟩
        · rename_i hbad
          have hb0 : st.bad = none := by cases h : st.bad <;> simp_all
          split
          · rename_i hnum
            refine ⟨hw.next, fun _ => ⟨hb0, ?_⟩⟩
            have h0 : 0 ≤ st.numN := by
              obtain ⟨l, b⟩ := st
              cases l with
              | nil => exact Int.le_refl 0
              | cons t l => exact (hw.1 t (by simp)).n
            simp [Ex.shp, Exs.shp, shapeB, Ex.op, Ex.n, Ex.args, h0, manyN]
          · split
            · exact ⟨hw.next, fun _ => ⟨hb0, shp_zero_args _ (by decide)⟩⟩
            · split
              · exact ⟨hw.next, fun _ => ⟨hb0, shp_zero_args _ (by decide)⟩⟩
              · split
                · exact ⟨hw.next, fun _ => ⟨hb0, shp_zero_args _ (by decide)⟩⟩
                · split
                  · rename_i hs
                    have hl := PSt.next_lt hs
                    have hg := ih' 0 st.next (by omega) (by omega) hw.next
                    refine ⟨hg.wf.must hE _, fun hb => ⟨hb0, (hg.good (PSt.must_good hb)).2⟩⟩
                  · split
                    · rename_i hs
                      have hl := PSt.next_lt hs
                      have g1 := ih' 0 st.next (by omega) (by omega) hw.next
                      have l1 := Nat.le_trans (PSt.must_le E (prF E 0 st.next).2 wThen) (prF_len E 0 st.next)
                      have g2 := ih' 0 ((prF E 0 st.next).2.must E wThen) (by omega) (by omega) (g1.wf.must hE _)
                      have l2 := Nat.le_trans (PSt.must_le E (prF E 0 ((prF E 0 st.next).2.must E wThen)).2 wElse) (prF_len E 0 ((prF E 0 st.next).2.must E wThen))
                      have g3 := ih' 0 ((prF E 0 ((prF E 0 st.next).2.must E wThen)).2.must E wElse) (by omega) (by omega) (g2.wf.must hE _)
                      refine ⟨g3.wf, fun hb => ⟨hb0, ?_⟩⟩
                      have q3 := g3.good hb
                      have q2 := g2.good (PSt.must_good q3.1)
                      have q1 := g1.good (PSt.must_good q2.1)
                      unfold prIf
                      rw [Ex.shp_eq]
                      simp only [Ex.args, List.all_cons, List.all_nil, Bool.and_true]
                      rw [q1.2, q2.2, q3.2]
                      simp [shapeB, Ex.op, Ex.n, Ex.args, manyN]
                    · exact ⟨hw.fails hE, fun h => absurd h (PSt.fails_bad E st)⟩

/-- What is read may be; what is not read has a place. -/
theorem parse_good (s : ByteArray) : ((parse s).2.2 = 0 → mayB 16 (parse s).1 = true ∧ deepN 16 (parse s).1 ≤ 16 ∧ (parse s).2.1 = 0) ∧ ((parse s).2.2 ≠ 0 → (parse s).1 = Ex.zero) ∧ 0 ≤ (parse s).2.1 := by
  obtain ⟨hw, ha⟩ := toks_wf s
  unfold parse
  split
  · rename_i h
    exact ⟨fun h0 => absurd h0 h, fun _ => rfl, ha⟩
  · have hst : (⟨(toks s).1, none⟩ : PSt).Wf := ⟨hw, fun b hb => by simp at hb⟩
    have hg := prF_good (runes s).length (by omega) _ 0 ⟨(toks s).1, none⟩ (Nat.le_refl _) (by omega) hst
    generalize prF _ 0 _ = p at *
    have hE : (0 : Int) ≤ (runes s).length := by omega
    generalize ((runes s).length : Int) = E at *
    unfold parseEnd
    have hw2 : (if p.2.l = [] then p.2 else p.2.fails E).Wf := by
      split
      · exact hg.wf
      · exact hg.wf.fails hE
    have hb2 : (if p.2.l = [] then p.2 else p.2.fails E).bad = none → p.2.bad = none := by
      split
      · exact id
      · exact fun h => absurd h (PSt.fails_bad E _)
    generalize (if p.2.l = [] then p.2 else p.2.fails E) = q at *
    obtain ⟨ql, qb⟩ := q
    cases qb with
    | some a => exact ⟨fun h => by simp at h, fun _ => rfl, hw2.2 a rfl⟩
    | none =>
      have hp := (hg.good (hb2 rfl)).2
      dsimp only
      split
      · exact ⟨fun h => by simp at h, fun _ => rfl, by simp⟩
      · rename_i hd
        exact ⟨fun _ => ⟨mayB_of 16 p.1 hp (by omega), by simpa using hd, rfl⟩, fun h => absurd rfl h, Int.le_refl 0⟩

end Go.Proofs.YtjbchkgkapccnaaGreatDoor

namespace Go.Proofs.YtjbchkgkapccnaaGreatDoor

def NB (l : List Tok) : Prop := ∀ t ∈ l, 0 ≤ t.n ∧ t.n ≤ 9223372036854775807
theorem numGo_hi : ∀ (rs : List Int) (n m : Int), n ≤ 9223372036854775807 → numGo n rs = some m → m ≤ 9223372036854775807
  | [], n, m, hn, h => by simp only [numGo, Option.some.injEq] at h; omega
  | r :: rs, n, m, hn, h => by
    simp only [numGo] at h
    split at h
    · simp at h
    · exact numGo_hi rs _ m (by omega) h
theorem endTok_hi {t : Tok} (h : t.n ≤ 9223372036854775807) {out o : List Tok} (ho : ∀ u ∈ out, u.n ≤ 9223372036854775807) (he : endTok t out = some o) : ∀ u ∈ o, u.n ≤ 9223372036854775807 := by
  unfold endTok at he
  by_cases hk : t.kind = 2
  · rw [if_pos hk] at he
    cases hm : numGo 0 (runes t.text) with
    | none => rw [hm] at he; simp at he
    | some m =>
      rw [hm] at he
      simp only [Option.some.injEq] at he
      subst he
      intro u hu
      rcases List.mem_append.1 hu with hu | hu
      · exact ho u hu
      · simp only [List.mem_singleton] at hu
        subst hu
        exact numGo_hi _ 0 m (by omega) hm
  · rw [if_neg hk] at he
    by_cases h0 : t.kind = 0
    · rw [if_pos h0] at he
      simp only [Option.some.injEq] at he
      subst he
      exact ho
    · rw [if_neg h0] at he
      simp only [Option.some.injEq] at he
      subst he
      intro u hu
      rcases List.mem_append.1 hu with hu | hu
      · exact ho u hu
      · simp only [List.mem_singleton] at hu
        subst hu
        exact h
theorem tokGo_hi : ∀ (rs : List Int) (t : Tok) (pos : Int) (out : List Tok), t.n ≤ 9223372036854775807 → (∀ u ∈ out, u.n ≤ 9223372036854775807) → ∀ u ∈ (tokGo t pos out rs).1, u.n ≤ 9223372036854775807
  | [], t, pos, out, ht, ho => by
    simp only [tokGo]
    cases he : endTok t out with
    | none => simp
    | some o => exact endTok_hi ht ho he
  | r :: rs, t, pos, out, ht, ho => by
    simp only [tokGo]
    split
    · exact tokGo_hi rs _ _ _ ht ho
    · cases he : endTok t out with
      | none => simp
      | some o =>
        dsimp only
        have ho2 := endTok_hi ht ho he
        split
        · exact tokGo_hi rs _ _ _ (by decide) ho2
        · split
          · simp
          · exact tokGo_hi rs _ _ _ (by show (0 : Int) ≤ _; omega) ho2
theorem toks_nb (s : ByteArray) : NB (toks s).1 := by
  intro t ht
  refine ⟨((toks_wf s).1 t ht).n, ?_⟩
  revert t
  unfold toks
  split
  · simp
  · exact tokGo_hi _ _ _ _ (by decide) (by simp)

def OkP (p : Ex × PSt) : Prop := p.1.ok ∧ NB p.2.l
theorem NB.next {st : PSt} (h : NB st.l) : NB st.next.l := fun t ht => h t (List.mem_of_mem_drop ht)
theorem NB.fails {E : Int} {st : PSt} (h : NB st.l) : NB (st.fails E).l := by
  unfold PSt.fails
  cases st.bad <;> exact h
theorem NB.must {E : Int} {st : PSt} (h : NB st.l) (s : List UInt8) : NB (st.must E s).l := by
  unfold PSt.must
  split
  · exact h.next
  · exact h.fails
theorem ok_mk {o n : Int} {l : List Ex} (h0 : 0 ≤ o) (h1 : o ≤ 255) (h2 : 0 ≤ n) (h3 : n ≤ 9223372036854775807) (hl : Exs.ok l) : (Ex.mk o n l).ok := by
  simp only [Ex.ok]
  exact ⟨h0, h1, by omega, h3, hl⟩
theorem ok_zero : Ex.zero.ok := ok_mk (by omega) (by omega) (by omega) (by omega) trivial

theorem rowL_ok {one : PSt → Ex × PSt} (h1 : ∀ st, NB st.l → OkP (one st)) {sg : List (List UInt8 × Int)} (hsg : ∀ p ∈ sg, 0 ≤ p.2 ∧ p.2 ≤ 255) : ∀ (c : Nat) (x : Ex) (st : PSt), x.ok → NB st.l → OkP (rowL one sg c x st)
  | 0, x, st, hx, hs => ⟨hx, hs⟩
  | c + 1, x, st, hx, hs => by
    simp only [rowL]
    split
    · exact ⟨hx, hs⟩
    · cases hg : signOf st sg with
      | none => exact ⟨hx, hs⟩
      | some o =>
        dsimp only
        have ho : ∃ p ∈ sg, p.2 = o := by
          clear h1 hsg
          induction sg with
          | nil => simp [signOf] at hg
          | cons p r ih =>
            obtain ⟨s, o'⟩ := p
            simp only [signOf] at hg
            split at hg
            · exact ⟨(s, o'), by simp, by simpa using hg⟩
            · obtain ⟨p, hp, he⟩ := ih hg
              exact ⟨p, by simp [hp], he⟩
        obtain ⟨p, hp, rfl⟩ := ho
        have hm := hsg p hp
        have hg1 := h1 st.next (NB.next hs)
        exact rowL_ok h1 hsg c _ _ (ok_mk hm.1 hm.2 (by omega) (by omega) ⟨hx, hg1.1, trivial⟩) hg1.2
theorem lvSigns_ops (lv : Nat) : ∀ p ∈ lvSigns lv, 0 ≤ p.2 ∧ p.2 ≤ 255 := by
  match lv with
  | 0 => decide
  | 1 => decide
  | 2 => decide
  | 3 => decide
  | n + 4 => simp only [lvSigns]; decide

theorem prF_ok (E : Int) (N : Nat) : ∀ (lv : Nat) (st : PSt), st.need lv ≤ N → lv ≤ 6 → NB st.l → OkP (prF E lv st) := by
  induction N using Nat.strongRecOn with
  | ind N ih =>
    intro lv st hn hlv hw
    unfold PSt.need at hn
    have ih' : ∀ (lv' : Nat) (st' : PSt), 8 * st'.l.length + (7 - lv') < N → lv' ≤ 6 → NB st'.l → OkP (prF E lv' st') := fun lv' st' h1 h2 h3 => ih _ h1 lv' st' (Nat.le_refl _) h2 h3
    by_cases h5 : lv < 5
    · rw [prF_row E lv st h5]
      let f : PSt → Ex × PSt := fun s => if s.l.length ≤ st.l.length then prF E (lv + 1) s else (Ex.zero, ⟨[], some 0⟩)
      have hf : ∀ s, NB s.l → OkP (f s) := by
        intro s hs
        by_cases hl : s.l.length ≤ st.l.length
        · show OkP (if _ then _ else _)
          rw [if_pos hl]
          exact ih' (lv + 1) s (by omega) (by omega) hs
        · show OkP (if _ then _ else _)
          rw [if_neg hl]
          exact ⟨ok_zero, fun t ht => by simp at ht⟩
      rw [rowL_congr (one := prF E (lv + 1)) (one' := f) (prF_len E (lv + 1)) _ st.l.length (fun s hs => by show _ = if _ then _ else _; rw [if_pos (by omega)]) _ _ _ (prF_len E (lv + 1) st)]
      have hg := ih' (lv + 1) st (by omega) (by omega) hw
      exact rowL_ok hf (lvSigns_ops lv) _ _ _ hg.1 hg.2
    · by_cases h6 : lv = 5
      · subst h6
        rw [prF_unary]
        unfold prUnary
        split
        · rename_i hs
          have hl := PSt.next_lt hs
          have hg := ih' 5 st.next (by omega) (by omega) (NB.next hw)
          exact ⟨ok_mk (by omega) (by omega) (by omega) (by omega) ⟨hg.1, trivial⟩, hg.2⟩
        · split
          · rename_i _ hs
            have hl := PSt.next_lt hs
            have hg := ih' 5 st.next (by omega) (by omega) (NB.next hw)
            exact ⟨ok_mk (by omega) (by omega) (by omega) (by omega) ⟨hg.1, trivial⟩, hg.2⟩
          · exact ih' 6 st (by omega) (by omega) hw
      · obtain rfl : lv = 6 := by omega
        rw [prF_one]
        unfold prOne
        split
        · exact ⟨ok_zero, hw⟩
        · split
          · have h0 : 0 ≤ st.numN ∧ st.numN ≤ 9223372036854775807 := by
              obtain ⟨l, b⟩ := st
              cases l with
              | nil => exact ⟨Int.le_refl 0, by show (0 : Int) ≤ _; omega⟩
              | cons t l => exact hw t (by simp)
            exact ⟨ok_mk (by omega) (by omega) h0.1 h0.2 trivial, NB.next hw⟩
          · split
            · exact ⟨ok_mk (by omega) (by omega) (by omega) (by omega) trivial, NB.next hw⟩
            · split
              · exact ⟨ok_mk (by omega) (by omega) (by omega) (by omega) trivial, NB.next hw⟩
              · split
                · exact ⟨ok_mk (by omega) (by omega) (by omega) (by omega) trivial, NB.next hw⟩
                · split
                  · rename_i hs
                    have hl := PSt.next_lt hs
                    have hg := ih' 0 st.next (by omega) (by omega) (NB.next hw)
                    exact ⟨hg.1, NB.must hg.2 _⟩
                  · split
                    · rename_i hs
                      have hl := PSt.next_lt hs
                      have g1 := ih' 0 st.next (by omega) (by omega) (NB.next hw)
                      have l1 := Nat.le_trans (PSt.must_le E (prF E 0 st.next).2 wThen) (prF_len E 0 st.next)
                      have g2 := ih' 0 ((prF E 0 st.next).2.must E wThen) (by omega) (by omega) (NB.must g1.2 _)
                      have l2 := Nat.le_trans (PSt.must_le E (prF E 0 ((prF E 0 st.next).2.must E wThen)).2 wElse) (prF_len E 0 ((prF E 0 st.next).2.must E wThen))
                      have g3 := ih' 0 ((prF E 0 ((prF E 0 st.next).2.must E wThen)).2.must E wElse) (by omega) (by omega) (NB.must g2.2 _)
                      exact ⟨ok_mk (by omega) (by omega) (by omega) (by omega) ⟨g1.1, g2.1, g3.1, trivial⟩, g3.2⟩
                    · exact ⟨ok_zero, NB.fails hw⟩

theorem parse_ok (s : ByteArray) : (parse s).1.ok := by
  unfold parse
  split
  · exact ok_zero
  · have hg := prF_ok (runes s).length _ 0 ⟨(toks s).1, none⟩ (Nat.le_refl _) (by omega) (toks_nb s)
    unfold parseEnd
    repeat' split
    all_goals first | exact ok_zero | exact hg.1

end Go.Proofs.YtjbchkgkapccnaaGreatDoor
