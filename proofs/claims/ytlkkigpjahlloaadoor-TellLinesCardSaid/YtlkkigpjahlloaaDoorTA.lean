/-
  The reference's digits and lines.
-/
import Derived.Test.YtlkkigpjahlloaaDoorT1
import Derived.Laws.IdiomStrings
namespace Go.Proofs.YtlkkigpjahlloaaDoor
open Go.RowKit
set_option linter.unusedVariables false

theorem decB_one {u : Nat} (h : u < 10) : decB u = { data := #[UInt8.ofNat (48 + u)] } := by
  unfold decB
  rw [Lib.decDigits_one h]
theorem decB_more {u : Nat} (h : ¬ u < 10) : decB u = decB (u / 10) ++ decB (u % 10) := by
  rw [decB_one (Nat.mod_lt u (by omega))]
  unfold decB
  rw [Lib.decDigits, dif_neg h]
  apply ByteArray.ext
  simp

set_option maxRecDepth 100000 in
set_option maxHeartbeats 1000000 in
theorem digits_c (u : Nat) : u ≤ 9223372036854775807 → ∀ w, Calls Tryd.prog 37 #[.int .i64 (u : Int)] w fun e w' => e = .returned (.string (decB u)) ∧ Below w.heap.size w w' := by
  induction u using Nat.strongRecOn with
  | ind u ih =>
    intro hu w
    by_cases h : u < 10
    · have hlt : (u : Int) < 10 := by omega
      have hc : (convert 41 9 (.slice (some ⟨w.heap.size, 0, none⟩) 1 1)).run Tryd.prog (w.alloc (.cells #[.int .u8 (48 + (u : Int))] 5)) = .ok (.string (decB u)) (w.alloc (.cells #[.int .u8 (48 + (u : Int))] 5)) := by
        rw [decB_one h]
        refine run_convert_bytes_back (w.alloc (.cells #[.int .u8 (48 + (u : Int))] 5)) 41 9 5 ⟨w.heap.size, 0, none⟩ 1 [UInt8.ofNat (48 + u)] (by kernel_rfl) (by kernel_rfl) (by kernel_rfl) ?_
        intro j hj
        obtain rfl : j = 0 := by simpa using hj
        have := (Blk.new w #[.int .u8 (48 + (u : Int))] 5).cell 0
        show (w.alloc _).cell? ⟨w.heap.size, 0, none⟩ = _
        rw [this]
        have e1 : (UInt8.ofNat (48 + u)).toNat = 48 + u := by
          rw [UInt8.toNat_ofNat']
          omega
        simp
        omega
      have hb : Below w.heap.size w (w.alloc (.cells #[.int .u8 (48 + (u : Int))] 5)) := (Below.refl _ _).alloc (Nat.le_refl _) _
      have HD : Hid (decB u = decB u) := rfl
      generalize decB u = r at *
      clear ih HD
      go_enter Tryd.func37, Tryd.ntmps37
      go_wp2
      go_ret
      exact ⟨rfl, hb⟩
    · have hlt : ¬ (u : Int) < 10 := by omega
      have HA := Lib.hid (ih (u / 10) (by omega) (by omega))
      have HB := Lib.hid (ih (u % 10) (by omega) (by omega))
      have HD := Lib.hid (decB_more h)
      have s1 : (decB (u / 10)).size ≤ 21 := by rw [decB_size]; exact dec_len _ (by omega)
      have s2 : (decB (u % 10)).size ≤ 21 := by rw [decB_size]; exact dec_len _ (by omega)
      clear ih
      go_enter Tryd.func37, Tryd.ntmps37
      go_wp2_with fail
      rw [show (u : Int) / 10 = ((u / 10 : Nat) : Int) by omega]
      refine (HA.out w).mono ?_
      rintro e w1 ⟨rfl, h1⟩
      go_wp2_with fail
      rw [show (u : Int) % 10 = ((u % 10 : Nat) : Int) by omega]
      refine (HB.out w1).mono ?_
      rintro e w2 ⟨rfl, h2⟩
      go_wp2_with fail
      go_ret
      exact ⟨by rw [HD.out]; rfl, h1.trans (h2.mono h1.size)⟩

end Go.Proofs.YtlkkigpjahlloaaDoor
