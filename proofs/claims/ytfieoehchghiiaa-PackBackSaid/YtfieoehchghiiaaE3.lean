/-
  Walks: expr.May, law08.Size.
-/
import Derived.Test.YtfieoehchghiiaaE2
namespace Go.Proofs.Ytfieoehchghiiaa
open Go.RowKit
set_option linter.unusedVariables false

def Ex.mayT (x : Ex) : Bool := mayB 16 x

set_option maxHeartbeats 400000 in
theorem May_c (x : Ex) (v : Value) (B : Nat) (w : World) (hv : ExAt w B v x) (hB : B ≤ w.heap.size) :
    Calls Try.prog 90 #[v] w fun e w' => e = .returned (.bool x.mayT) ∧ Below w.heap.size w w' := by
  obtain ⟨sv, rfl, hs⟩ := hv
  obtain ⟨a, cap, rfl, hcap, hmx⟩ := hs.slice
  have HV : Hid (ExAt w B _ x) := ⟨_, rfl, hs⟩
  clear hs
  go_enter Try.func90, Try.ntmps90
  go_wp2_with (go_at_call 111; refine (may_c 16 x _ B _ _ (HV.out.keep ((Below.refl _ _).alloc hB _)) (by omega) (by omega) (by simp; omega)).mono ?_; rintro e w3 ⟨rfl, hb3⟩)
  go_ret
  exact ⟨rfl, ((Below.refl _ _).alloc (Nat.le_refl _) _).trans (hb3.mono (by simp))⟩

mutual
/-- How many expressions one has, at most 2000. -/
def Ex.size : Ex → Nat
  | .mk _ _ l => min (Exs.size l 1) 2000
def Exs.size : List Ex → Nat → Nat
  | [], n => n
  | x :: l, n => Exs.size l (if n < 2000 then n + x.size else n)
end
theorem Ex.size_le (x : Ex) : x.size ≤ 2000 := by obtain ⟨o, n, l⟩ := x; simp only [Ex.size]; omega
theorem Ex.size_eq (x : Ex) : x.size = min (Exs.size x.args 1) 2000 := by obtain ⟨o, n, l⟩ := x; rfl

def SizeC (h : Nat) : Prop := ∀ (x : Ex) (v : Value) (B : Nat) (w : World), x.ht ≤ h → ExAt w B v x → B ≤ w.heap.size →
  Calls Try.prog 23 #[v] w fun e w' => e = .returned (.int .i64 x.size) ∧ Below w.heap.size w w'

set_option maxHeartbeats 1000000 in
theorem size_step (h : Nat) (IH : Hid (∀ x : Ex, x.ht < h → ∀ (v : Value) (B : Nat) (w : World), ExAt w B v x → B ≤ w.heap.size →
      Calls Try.prog 23 #[v] w fun e w' => e = .returned (.int .i64 x.size) ∧ Below w.heap.size w w')) : SizeC h := by
  intro x v B w hh hv hB
  have HLT : Hid (∀ a ∈ x.args, a.ht < h) := fun a ha => by have := Ex.ht_args x a ha; omega
  have HE := Lib.hid (Ex.size_eq x)
  obtain ⟨sv, rfl, hs⟩ := hv
  obtain ⟨a, cap, rfl, hcap, hmx⟩ := hs.slice
  have HS := Lib.hid hs
  have hlm : x.args.length ≤ 9223372036854775807 := by unfold maxLen at hmx; omega
  generalize x.op = o at *
  generalize x.n = n at *
  generalize x.args = l at *
  clear hs hh
  go_enter Try.func23, Try.ntmps23
  go_wp2
  have hW := (Below.refl w.heap.size w).alloc (Nat.le_refl _) (.cells #[.int .u8 o, .int .i64 n, .slice a l.length cap] 35)
  generalize World.alloc w _ = W at *
  go_loopw [3, 9] (fun s q wr => ∃ j m : Nat, q = .int .i64 j ∧ s = .int .i64 m ∧ j ≤ l.length ∧ m ≤ 4000 ∧ Below w.heap.size w wr ∧ Exs.size (l.drop j) m = Exs.size l 1) (fun _ q _ => l.length - (intOf q).toNat)
  case atStart => exact ⟨0, 1, rfl, rfl, Nat.zero_le _, by omega, hW, rfl⟩
  case round =>
    obtain ⟨j, m, rfl, rfl, hj, hm, hBr, hr⟩ := hrel
    by_cases hlt : j < l.length
    · obtain ⟨b, off, cp, sv, e1, hb, c0, c1, c2, hsub⟩ := ((HS.out.mono hB).keep hBr).at_ j hlt
      simp only [Value.slice.injEq, true_and] at e1
      obtain ⟨rfl, rfl⟩ := e1
      obtain ⟨a2, cap2, rfl, _, _⟩ := hsub.slice
      rw [List.drop_eq_getElem_cons hlt] at hr
      simp only [Exs.size] at hr
      have hht := HLT.out _ (List.getElem_mem hlt)
      have hx : ∀ X, Below wr.heap.size wr X → ExAt X X.heap.size (.agg #[.int .u8 (l[j]'hlt).op, .int .i64 (l[j]'hlt).n, .slice a2 (l[j]'hlt).args.length cap2]) (l[j]'hlt) := fun X hX => ⟨_, rfl, (hsub.keep (hX.mono hBr.size)).mono (Nat.le_trans hBr.size hX.size)⟩
      have hsz := Ex.size_le (l[j]'hlt)
      generalize l[j] = x at *
      have HX := Lib.hid hx
      have HR := Lib.hid hr
      clear hr hx hsub
      by_cases hm2 : m < 2000
      · have hm3 : (m : Int) < 2000 := by omega
        go_wp2_with (go_at_call 23; refine (IH.out x hht _ _ _ (HX.out _ ((Below.refl _ _).alloc (Nat.le_refl _) _)) (Nat.le_refl _)).mono ?_; rintro e w3 ⟨rfl, hb3⟩)
        go_roundw
        case rel => exact ⟨j + 1, m + x.size, by go_num, by go_num, by omega, by omega, (hBr.alloc hBr.size _).trans (hb3.mono (by have := hBr.size; simp; omega)), by rw [← HR.out, if_pos hm2]⟩
        case measure => simp [intOf]; omega
      · have hm3 : ¬ (m : Int) < 2000 := by omega
        go_wp2
        go_roundw
        case rel => exact ⟨j + 1, m, by go_num, rfl, by omega, by omega, hBr.alloc hBr.size _, by rw [← HR.out, if_neg hm2]⟩
        case measure => simp [intOf]; omega
    · rw [List.drop_of_length_le (by omega)] at hr
      simp only [Exs.size] at hr
      have HR := Lib.hid hr
      clear hr
      go_wp2
      all_goals
        go_ret
        exact ⟨ret_int (by rw [HE.out, ← HR.out]; omega), hBr⟩

theorem size_all (h : Nat) : SizeC h := by
  induction h using Nat.strongRecOn with
  | ind h ih => exact size_step h (fun x hx v B w hv hB => ih x.ht hx x v B w (Nat.le_refl _) hv hB)
theorem Size_c (x : Ex) (v : Value) (B : Nat) (w : World) (hv : ExAt w B v x) (hB : B ≤ w.heap.size) :
    Calls Try.prog 23 #[v] w fun e w' => e = .returned (.int .i64 x.size) ∧ Below w.heap.size w w' := size_all x.ht x v B w (Nat.le_refl _) hv hB

end Go.Proofs.Ytfieoehchghiiaa
