/-
  Walks: strings.ContainsRune at the signs of lex.
-/
import Derived.Test.YtfieoehchghiiaaW1
import Derived.Test.YtfieoehchghiiaaS7
import Derived.Lib.Bytealg
import Derived.Lib.Walk
namespace Go.Proofs.Ytfieoehchghiiaa
open Go.RowKit
set_option linter.unusedVariables false

def signsS : ByteArray := { data := #[43, 45, 42, 47, 37, 40, 41, 38, 124, 33, 61, 60] }

set_option maxRecDepth 100000 in
set_option maxHeartbeats 400000 in
theorem slIndexByte_c (s : ByteArray) (c : Int) (w : World) :
    Calls Try.prog 144 #[.string s, .int .u8 c] w fun e w' => e = .returned (.int .i64 (Lib.indexByte s.data.toList c.toNat.toUInt8)) ∧ w = w' := by
  go_enter Try.func144, Try.ntmps144
  go_wp2
  rw [run_callFunc_extern Try.func146 (by kernel_rfl) (by kernel_rfl) (by kernel_rfl) (e := Extern.BytealgIndexByte.indexByte) (by kernel_rfl), Lib.run_indexByteString]
  simp only [Result.andThen]
  rw [Oper.upon_value]
  go_wp2
  go_ret
  exact ⟨rfl, rfl⟩

set_option maxRecDepth 100000 in
set_option maxHeartbeats 400000 in
theorem IndexByte_c (s : ByteArray) (c : Int) (w : World) :
    Calls Try.prog 139 #[.string s, .int .u8 c] w fun e w' => e = .returned (.int .i64 (Lib.indexByte s.data.toList c.toNat.toUInt8)) ∧ w = w' := by
  go_enter Try.func139, Try.ntmps139
  go_wp2_with (go_at_call 144; refine (slIndexByte_c _ _ _).mono ?_; rintro e w' ⟨rfl, rfl⟩)
  go_ret
  exact ⟨rfl, rfl⟩

set_option maxRecDepth 100000 in
set_option maxHeartbeats 400000 in
theorem IndexRune_a (r : Int) (w : World) (h0 : 0 ≤ r) (h1 : r < 128) :
    Calls Try.prog 137 #[.string signsS, .int .i32 r] w fun e w' => e = .returned (.int .i64 (Lib.indexByte signsS.data.toList r.toNat.toUInt8)) ∧ w = w' := by
  go_enter Try.func137, Try.ntmps137
  go_wp2_with (go_at_call 139; refine (IndexByte_c _ _ _).mono ?_; rintro e w' ⟨rfl, rfl⟩)
  go_ret
  exact ⟨rfl, rfl⟩

/-- Not a rune of ASCII, and not the one that stands for what is none. -/
theorem encode_last (r : Int) (h0 : 128 ≤ r) (hv : Utf8.valid r = true) : ((Utf8.encode r).size = 2 ∨ (Utf8.encode r).size = 3 ∨ (Utf8.encode r).size = 4) ∧ ∀ n, n + 1 = (Utf8.encode r).size → ∀ h : n < (Utf8.encode r).size, 128 ≤ ((Utf8.encode r)[n]'h).toNat := by
  obtain ⟨h1, h2, h3⟩ := encode_facts r hv h0
  refine ⟨by omega, fun n hn h => ?_⟩
  obtain rfl : n = (Utf8.encode r).size - 1 := by omega
  exact h3 h

theorem noByte (c : UInt8) (k : Nat) (h : 128 ≤ c.toNat) : Lib.indexByte (signsS.extract k 12).data.toList c = -1 := by
  rw [← Lib.firstIdx_eq]
  exact firstIdx_ascii signsS k 12 c (by decide) h

theorem IB_neg (k : Nat) (c : Int) (w : World) (h : 128 ≤ c) (h2 : c < 256) :
    Calls Try.prog 139 #[.string (signsS.extract k 12), .int .u8 c] w fun e w' => e = .returned (.int .i64 (-1)) ∧ w' = w :=
  (IndexByte_c _ _ _).mono fun _ _ ⟨he, hw⟩ => ⟨by
    rw [he, noByte]
    show 128 ≤ (UInt8.ofNat c.toNat).toNat
    rw [UInt8.toNat_ofNat']
    omega, hw.symm⟩


set_option maxRecDepth 100000 in
set_option maxHeartbeats 400000 in
theorem IndexRune_d01 (r : Int) (w : World) (h0 : 128 ≤ r) (h2 : r ≤ 1114111) (h3 : r < 55296) (h4 : (r == 65533) = false) (e1 : (Utf8.encode r).size = 2) (hl : 1 < (Utf8.encode r).size)
    (hb : 128 ≤ ((Utf8.encode r)[1]'hl).toNat) :
    Calls Try.prog 137 #[.string signsS, .int .i32 r] w fun e w' => e = .returned (.int .i64 (-1)) ∧ Below w.heap.size w w' := by
  have hq : ¬ r < 128 := by omega
  have hp : 0 ≤ r := by omega
  have hb2 := ((Utf8.encode r)[1]'hl).toNat_lt
  have hss : signsS.size = 12 := rfl
  have hs1 : ∀ h, (signsS[1]'h).toNat = 45 := fun _ => rfl
  have hne : ((45 : Int) != (((Utf8.encode r)[1]'hl).toNat : Int)) = true := by rw [bne_iff_ne]; omega
  go_enter Try.func137, Try.ntmps137
  go_wp2
  go_step3
  go_wp2
  refine wp_loop_rounds 1 ?_
  rw [rounds_succ]
  go_wp2
  go_step3
  go_wp2
  go_quiet (fail)
  have hbw := below_drewN (Below.refl w.heap.size w) nq
  generalize w.drewN nq = w1 at *
  go_wp2
  go_quiet ((go_at_call 139; exact Calls.quiet_of_same (IB_neg _ _ _ (by omega) (by omega))))
  go_wp2
  simp only [Exit.noGoto_ret, Exit.inBlock, Exit.then]
  go_ret
  exact ⟨rfl, below_drewN hbw _⟩

set_option maxRecDepth 100000 in
set_option maxHeartbeats 400000 in
theorem IndexRune_d02 (r : Int) (w : World) (h0 : 128 ≤ r) (h2 : r ≤ 1114111) (h3 : r < 55296) (h4 : (r == 65533) = false) (e1 : (Utf8.encode r).size = 3) (hl : 2 < (Utf8.encode r).size)
    (hb : 128 ≤ ((Utf8.encode r)[2]'hl).toNat) :
    Calls Try.prog 137 #[.string signsS, .int .i32 r] w fun e w' => e = .returned (.int .i64 (-1)) ∧ Below w.heap.size w w' := by
  have hq : ¬ r < 128 := by omega
  have hp : 0 ≤ r := by omega
  have hb2 := ((Utf8.encode r)[2]'hl).toNat_lt
  have hss : signsS.size = 12 := rfl
  have hs1 : ∀ h, (signsS[2]'h).toNat = 42 := fun _ => rfl
  have hne : ((42 : Int) != (((Utf8.encode r)[2]'hl).toNat : Int)) = true := by rw [bne_iff_ne]; omega
  go_enter Try.func137, Try.ntmps137
  go_wp2
  go_step3
  go_wp2
  refine wp_loop_rounds 1 ?_
  rw [rounds_succ]
  go_wp2
  go_step3
  go_wp2
  go_quiet (fail)
  have hbw := below_drewN (Below.refl w.heap.size w) nq
  generalize w.drewN nq = w1 at *
  go_wp2
  go_quiet ((go_at_call 139; exact Calls.quiet_of_same (IB_neg _ _ _ (by omega) (by omega))))
  go_wp2
  simp only [Exit.noGoto_ret, Exit.inBlock, Exit.then]
  go_ret
  exact ⟨rfl, below_drewN hbw _⟩

set_option maxRecDepth 100000 in
set_option maxHeartbeats 400000 in
theorem IndexRune_d03 (r : Int) (w : World) (h0 : 128 ≤ r) (h2 : r ≤ 1114111) (h3 : r < 55296) (h4 : (r == 65533) = false) (e1 : (Utf8.encode r).size = 4) (hl : 3 < (Utf8.encode r).size)
    (hb : 128 ≤ ((Utf8.encode r)[3]'hl).toNat) :
    Calls Try.prog 137 #[.string signsS, .int .i32 r] w fun e w' => e = .returned (.int .i64 (-1)) ∧ Below w.heap.size w w' := by
  have hq : ¬ r < 128 := by omega
  have hp : 0 ≤ r := by omega
  have hb2 := ((Utf8.encode r)[3]'hl).toNat_lt
  have hss : signsS.size = 12 := rfl
  have hs1 : ∀ h, (signsS[3]'h).toNat = 47 := fun _ => rfl
  have hne : ((47 : Int) != (((Utf8.encode r)[3]'hl).toNat : Int)) = true := by rw [bne_iff_ne]; omega
  go_enter Try.func137, Try.ntmps137
  go_wp2
  go_step3
  go_wp2
  refine wp_loop_rounds 1 ?_
  rw [rounds_succ]
  go_wp2
  go_step3
  go_wp2
  go_quiet (fail)
  have hbw := below_drewN (Below.refl w.heap.size w) nq
  generalize w.drewN nq = w1 at *
  go_wp2
  go_quiet ((go_at_call 139; exact Calls.quiet_of_same (IB_neg _ _ _ (by omega) (by omega))))
  go_wp2
  simp only [Exit.noGoto_ret, Exit.inBlock, Exit.then]
  go_ret
  exact ⟨rfl, below_drewN hbw _⟩

set_option maxRecDepth 100000 in
set_option maxHeartbeats 400000 in
theorem IndexRune_d11 (r : Int) (w : World) (h0 : 128 ≤ r) (h2 : r ≤ 1114111) (h3 : 57343 < r) (h4 : (r == 65533) = false) (e1 : (Utf8.encode r).size = 2) (hl : 1 < (Utf8.encode r).size)
    (hb : 128 ≤ ((Utf8.encode r)[1]'hl).toNat) :
    Calls Try.prog 137 #[.string signsS, .int .i32 r] w fun e w' => e = .returned (.int .i64 (-1)) ∧ Below w.heap.size w w' := by
  have hq : ¬ r < 128 := by omega
  have hp : 0 ≤ r := by omega
  have hb2 := ((Utf8.encode r)[1]'hl).toNat_lt
  have hss : signsS.size = 12 := rfl
  have hs1 : ∀ h, (signsS[1]'h).toNat = 45 := fun _ => rfl
  have hne : ((45 : Int) != (((Utf8.encode r)[1]'hl).toNat : Int)) = true := by rw [bne_iff_ne]; omega
  have h5 : ¬ r < 55296 := by omega
  go_enter Try.func137, Try.ntmps137
  go_wp2
  go_step3
  go_wp2
  refine wp_loop_rounds 1 ?_
  rw [rounds_succ]
  go_wp2
  go_step3
  go_wp2
  go_quiet (fail)
  have hbw := below_drewN (Below.refl w.heap.size w) nq
  generalize w.drewN nq = w1 at *
  go_wp2
  go_quiet ((go_at_call 139; exact Calls.quiet_of_same (IB_neg _ _ _ (by omega) (by omega))))
  go_wp2
  simp only [Exit.noGoto_ret, Exit.inBlock, Exit.then]
  go_ret
  exact ⟨rfl, below_drewN hbw _⟩

set_option maxRecDepth 100000 in
set_option maxHeartbeats 400000 in
theorem IndexRune_d12 (r : Int) (w : World) (h0 : 128 ≤ r) (h2 : r ≤ 1114111) (h3 : 57343 < r) (h4 : (r == 65533) = false) (e1 : (Utf8.encode r).size = 3) (hl : 2 < (Utf8.encode r).size)
    (hb : 128 ≤ ((Utf8.encode r)[2]'hl).toNat) :
    Calls Try.prog 137 #[.string signsS, .int .i32 r] w fun e w' => e = .returned (.int .i64 (-1)) ∧ Below w.heap.size w w' := by
  have hq : ¬ r < 128 := by omega
  have hp : 0 ≤ r := by omega
  have hb2 := ((Utf8.encode r)[2]'hl).toNat_lt
  have hss : signsS.size = 12 := rfl
  have hs1 : ∀ h, (signsS[2]'h).toNat = 42 := fun _ => rfl
  have hne : ((42 : Int) != (((Utf8.encode r)[2]'hl).toNat : Int)) = true := by rw [bne_iff_ne]; omega
  have h5 : ¬ r < 55296 := by omega
  go_enter Try.func137, Try.ntmps137
  go_wp2
  go_step3
  go_wp2
  refine wp_loop_rounds 1 ?_
  rw [rounds_succ]
  go_wp2
  go_step3
  go_wp2
  go_quiet (fail)
  have hbw := below_drewN (Below.refl w.heap.size w) nq
  generalize w.drewN nq = w1 at *
  go_wp2
  go_quiet ((go_at_call 139; exact Calls.quiet_of_same (IB_neg _ _ _ (by omega) (by omega))))
  go_wp2
  simp only [Exit.noGoto_ret, Exit.inBlock, Exit.then]
  go_ret
  exact ⟨rfl, below_drewN hbw _⟩

set_option maxRecDepth 100000 in
set_option maxHeartbeats 400000 in
theorem IndexRune_d13 (r : Int) (w : World) (h0 : 128 ≤ r) (h2 : r ≤ 1114111) (h3 : 57343 < r) (h4 : (r == 65533) = false) (e1 : (Utf8.encode r).size = 4) (hl : 3 < (Utf8.encode r).size)
    (hb : 128 ≤ ((Utf8.encode r)[3]'hl).toNat) :
    Calls Try.prog 137 #[.string signsS, .int .i32 r] w fun e w' => e = .returned (.int .i64 (-1)) ∧ Below w.heap.size w w' := by
  have hq : ¬ r < 128 := by omega
  have hp : 0 ≤ r := by omega
  have hb2 := ((Utf8.encode r)[3]'hl).toNat_lt
  have hss : signsS.size = 12 := rfl
  have hs1 : ∀ h, (signsS[3]'h).toNat = 47 := fun _ => rfl
  have hne : ((47 : Int) != (((Utf8.encode r)[3]'hl).toNat : Int)) = true := by rw [bne_iff_ne]; omega
  have h5 : ¬ r < 55296 := by omega
  go_enter Try.func137, Try.ntmps137
  go_wp2
  go_step3
  go_wp2
  refine wp_loop_rounds 1 ?_
  rw [rounds_succ]
  go_wp2
  go_step3
  go_wp2
  go_quiet (fail)
  have hbw := below_drewN (Below.refl w.heap.size w) nq
  generalize w.drewN nq = w1 at *
  go_wp2
  go_quiet ((go_at_call 139; exact Calls.quiet_of_same (IB_neg _ _ _ (by omega) (by omega))))
  go_wp2
  simp only [Exit.noGoto_ret, Exit.inBlock, Exit.then]
  go_ret
  exact ⟨rfl, below_drewN hbw _⟩

set_option maxRecDepth 100000 in
set_option maxHeartbeats 400000 in
theorem IndexRune_c0 (r : Int) (w : World) (h0 : r < 0) :
    Calls Try.prog 137 #[.string signsS, .int .i32 r] w fun e w' => e = .returned (.int .i64 (-1)) ∧ Below w.heap.size w w' := by
  have h2 : ¬ 0 ≤ r := by omega
  have h3 : (r == 65533) = false := by simp; omega
  have h4 : r ≤ 57343 := by omega
  go_enter Try.func137, Try.ntmps137
  go_wp2
  go_ret
  exact ⟨rfl, Below.refl _ _⟩

set_option maxRecDepth 100000 in
set_option maxHeartbeats 400000 in
theorem IndexRune_c1 (r : Int) (w : World) (h0 : 128 ≤ r) (h1 : 1114111 < r ∨ 55296 ≤ r ∧ r ≤ 57343) :
    Calls Try.prog 137 #[.string signsS, .int .i32 r] w fun e w' => e = .returned (.int .i64 (-1)) ∧ Below w.heap.size w w' := by
  have h2 : 0 ≤ r := by omega
  have h4 : ¬ r < 128 := by omega
  have h5 : ¬ r < 55296 := by omega
  have h3 : (r == 65533) = false := by simp; omega
  rcases h1 with h1 | ⟨h1, h6⟩
  · have h7 : 57343 < r := by omega
    go_enter Try.func137, Try.ntmps137
    go_wp2
    go_ret
    exact ⟨rfl, Below.refl _ _⟩
  · go_enter Try.func137, Try.ntmps137
    go_wp2
    go_ret
    exact ⟨rfl, Below.refl _ _⟩

theorem signs_decode (pos : Nat) (h : pos < signsS.size) : ((Utf8.decode signsS pos).1 == 65533) = false := by
  have h12 : pos < 12 := h
  have hall : ∀ k, k < 12 → ((Utf8.decode signsS k).1 == 65533) = false := by decide +kernel
  exact hall pos h12

theorem below_iter {B : Nat} {a w : World} (h : Below B a w) (hB : B ≤ w.heap.size) (s : ByteArray) (pos : Nat) : Below B a (w.iter s pos) := h.alloc hB _

set_option maxRecDepth 100000 in
set_option maxHeartbeats 400000 in
theorem IndexRune_b (w : World) :
    Calls Try.prog 137 #[.string signsS, .int .i32 65533] w fun e w' => e = .returned (.int .i64 (-1)) ∧ Below w.heap.size w w' := by
  go_enter Try.func137, Try.ntmps137
  go_wp2
  go_loopw [5] (fun _ wr => ∃ (pos : Nat), wr = w.iter signsS pos) (fun _ wr => signsS.size - wr.iterPos w.heap.size)
  case atStart => exact ⟨0, rfl⟩
  case round =>
    obtain ⟨pos, rfl⟩ := hrel
    by_cases hp : pos < signsS.size
    · have hnx : ∀ ty, (Instr.next (.pointer (some ⟨w.heap.size, 0, none⟩)) true ty).run Try.prog (w.iter signsS pos) = _ := fun ty => run_next_any w signsS pos ty hp
      have hwd := Lib.decode_width_pos signsS pos hp
      have hne : (((Utf8.decode signsS pos).1 : Int) == 65533) = false := by have := signs_decode pos hp; simp at this ⊢; omega
      go_wp2
      go_roundw
      case rel => exact ⟨_, rfl⟩
      case measure => simp; omega
    · have hnx : ∀ ty, (Instr.next (.pointer (some ⟨w.heap.size, 0, none⟩)) true ty).run Try.prog (w.iter signsS pos) = _ := fun ty => run_next_end w signsS pos ty hp
      go_wp2
      go_ret
      exact ⟨rfl, below_iter (Below.refl _ _) (Nat.le_refl _) _ _⟩

theorem sign_index (r : Int) (h0 : 0 ≤ r) (h1 : r < 128) : decide (0 ≤ Lib.indexByte signsS.data.toList r.toNat.toUInt8) = signB r := by
  obtain ⟨n, rfl⟩ := Int.eq_ofNat_of_zero_le h0
  have hn : n < 128 := by omega
  have hall : ∀ k, k < 128 → decide (0 ≤ Lib.indexByte signsS.data.toList ((k : Nat) : Int).toNat.toUInt8) = signB ((k : Nat) : Int) := by decide +kernel
  exact hall n hn

/-- What IndexRune finds among the signs. -/
theorem IndexRune_any (r : Int) (w : World) :
    Calls Try.prog 137 #[.string signsS, .int .i32 r] w fun e w' => ∃ k, e = .returned (.int .i64 k) ∧ decide (0 ≤ k) = signB r ∧ Below w.heap.size w w' := by
  have hneg : ∀ k : Int, k = -1 → (r < 0 ∨ 128 ≤ r) → decide (0 ≤ k) = signB r := by
    intro k hk hr; subst hk; unfold signB; rw [Bool.eq_iff_iff]; simp; omega
  by_cases h0 : r < 0
  · exact (IndexRune_c0 r w h0).mono fun e w' ⟨he, hw⟩ => ⟨_, he, hneg _ rfl (.inl h0), hw⟩
  by_cases h1 : r < 128
  · exact (IndexRune_a r w (by omega) h1).mono fun e w' ⟨he, hw⟩ => ⟨_, he, sign_index r (by omega) h1, by subst hw; exact Below.refl _ _⟩
  by_cases h2 : 1114111 < r ∨ 55296 ≤ r ∧ r ≤ 57343
  · exact (IndexRune_c1 r w (by omega) h2).mono fun e w' ⟨he, hw⟩ => ⟨_, he, hneg _ rfl (.inr (by omega)), hw⟩
  by_cases h3 : r = 65533
  · subst h3
    exact (IndexRune_b w).mono fun e w' ⟨he, hw⟩ => ⟨_, he, hneg _ rfl (.inr (by omega)), hw⟩
  have h4 : (r == 65533) = false := by simpa using h3
  have hv : Utf8.valid r = true := by rw [validRune_eq]; unfold validRune; simp; omega
  obtain ⟨e1, e2⟩ := encode_last r (by omega) hv
  have fin : (Calls Try.prog 137 #[.string signsS, .int .i32 r] w fun e w' => e = .returned (.int .i64 (-1)) ∧ Below w.heap.size w w') := by
    by_cases h5 : r < 55296
    · rcases e1 with e1 | e1 | e1
      · exact IndexRune_d01 r w (by omega) (by omega) h5 h4 e1 (by omega) (e2 1 (by omega) _)
      · exact IndexRune_d02 r w (by omega) (by omega) h5 h4 e1 (by omega) (e2 2 (by omega) _)
      · exact IndexRune_d03 r w (by omega) (by omega) h5 h4 e1 (by omega) (e2 3 (by omega) _)
    · rcases e1 with e1 | e1 | e1
      · exact IndexRune_d11 r w (by omega) (by omega) (by omega) h4 e1 (by omega) (e2 1 (by omega) _)
      · exact IndexRune_d12 r w (by omega) (by omega) (by omega) h4 e1 (by omega) (e2 2 (by omega) _)
      · exact IndexRune_d13 r w (by omega) (by omega) (by omega) h4 e1 (by omega) (e2 3 (by omega) _)
  exact fin.mono fun e w' ⟨he, hw⟩ => ⟨_, he, hneg _ rfl (.inr (by omega)), hw⟩

theorem ContainsRune_c (r : Int) (w : World) :
    Calls Try.prog 132 #[.string signsS, .int .i32 r] w fun e w' => e = .returned (.bool (signB r)) ∧ Below w.heap.size w w' := by
  go_enter Try.func132, Try.ntmps132
  go_wp2_with (go_at_call 137; refine (IndexRune_any _ _).mono ?_; rintro e w' ⟨k, rfl, hk, hb⟩; have HK := Lib.hid hk; clear hk)
  go_ret
  exact ⟨ret_bool (by rw [← HK.out]), hb⟩

set_option maxHeartbeats 400000 in
theorem kind_c (r : Int) (w : World) :
    Calls Try.prog 122 #[.int .i32 r] w fun e w' => e = .returned (.int .u8 (kindN r)) ∧ Below w.heap.size w w' := by
  have hz : (Utf8.encode r).size ≤ maxLen := by have := encode_size r; unfold maxLen; omega
  by_cases h0 : 48 ≤ r ∧ r ≤ 57
  · obtain ⟨h1, h2⟩ := h0
    go_enter Try.func122, Try.ntmps122
    go_wp2
    go_ret
    exact ⟨ret_int (by unfold kindN; rw [if_pos ⟨h1, h2⟩]), Below.refl _ _⟩
  · cases hs : signB r
    · cases hn : nameB (Utf8.encode r)
      all_goals
        have HS := Lib.hid hs
        have HN := Lib.hid hn
        have H0 := Lib.hid h0
        clear hs hn h0
        go_enter Try.func122, Try.ntmps122
        go_wp2_with (first
          | (go_at_call 132; refine (ContainsRune_c _ _).mono ?_; rintro e w1 ⟨rfl, hb1⟩; rw [HS.out])
          | (go_at_call 14; refine (Name_c _ _ hz).mono ?_; rintro e w2 ⟨rfl, _, rfl⟩; rw [HN.out]))
        all_goals first | (exfalso; have := H0.out; omega) | skip
        all_goals
          go_ret
          exact ⟨ret_int (by unfold kindN; rw [if_neg H0.out, HS.out, HN.out]; rfl), below_iter hb1 hb1.size _ _⟩
    · have HS := Lib.hid hs
      have H0 := Lib.hid h0
      clear hs h0
      go_enter Try.func122, Try.ntmps122
      go_wp2_with (go_at_call 132; refine (ContainsRune_c _ _).mono ?_; rintro e w1 ⟨rfl, hb1⟩; rw [HS.out])
      all_goals first | (exfalso; have := H0.out; omega) | skip
      all_goals
        go_ret
        exact ⟨ret_int (by unfold kindN; rw [if_neg H0.out, HS.out]; rfl), hb1⟩

end Go.Proofs.Ytfieoehchghiiaa
