/-
  Walk: kind.accs.
-/
import Derived.Test.YtfieoehchghiiaaE3
namespace Go.Proofs.Ytfieoehchghiiaa
open Go.RowKit
set_option linter.unusedVariables false

mutual
/-- Whether there is an accumulator in an expression. -/
def Ex.accB : Ex → Bool
  | .mk o _ l => o == 4 || Exs.accB l
def Exs.accB : List Ex → Bool
  | [] => false
  | x :: l => x.accB || Exs.accB l
end
theorem Ex.accB_eq (x : Ex) : x.accB = (x.op == 4 || Exs.accB x.args) := by obtain ⟨o, n, l⟩ := x; rfl

def AccC (h : Nat) : Prop := ∀ (x : Ex) (v : Value) (B : Nat) (w : World), x.ht ≤ h → ExAt w B v x → B ≤ w.heap.size →
  Calls Try.prog 91 #[v] w fun e w' => e = .returned (.bool x.accB) ∧ Below w.heap.size w w'

set_option maxHeartbeats 1000000 in
theorem acc_step (h : Nat) (IH : Hid (∀ x : Ex, x.ht < h → ∀ (v : Value) (B : Nat) (w : World), ExAt w B v x → B ≤ w.heap.size →
      Calls Try.prog 91 #[v] w fun e w' => e = .returned (.bool x.accB) ∧ Below w.heap.size w w')) : AccC h := by
  intro x v B w hh hv hB
  have HLT : Hid (∀ a ∈ x.args, a.ht < h) := fun a ha => by have := Ex.ht_args x a ha; omega
  have HE := Lib.hid (Ex.accB_eq x)
  obtain ⟨sv, rfl, hs⟩ := hv
  obtain ⟨a, cap, rfl, hcap, hmx⟩ := hs.slice
  have HS := Lib.hid hs
  have hlm : x.args.length ≤ 9223372036854775807 := by unfold maxLen at hmx; omega
  generalize x.op = o at *
  generalize x.n = n at *
  generalize x.args = l at *
  clear hs hh
  by_cases h4 : o = 4
  · have hq1 : (o == 4) = true := by simpa using h4
    have HE2 : Hid (x.accB = true) := by show _ = _; rw [HE.out, hq1]; rfl
    clear h4 HE
    go_enter Try.func91, Try.ntmps91
    go_wp2
    go_ret
    exact ⟨ret_bool HE2.out.symm, (Below.refl _ _).alloc (Nat.le_refl _) _⟩
  · have hq1 : (o == 4) = false := by simpa using h4
    have HE2 : Hid (x.accB = Exs.accB l) := by show _ = _; rw [HE.out, hq1]; rfl
    clear h4 HE
    go_enter Try.func91, Try.ntmps91
    go_wp2
    have hW := (Below.refl w.heap.size w).alloc (Nat.le_refl _) (.cells #[.int .u8 o, .int .i64 n, .slice a l.length cap] 35)
    generalize World.alloc w _ = W at *
    go_loopw [11] (fun q wr => ∃ j : Nat, q = .int .i64 j ∧ j ≤ l.length ∧ Below w.heap.size w wr ∧ Exs.accB (l.drop j) = Exs.accB l) (fun q _ => l.length - (intOf q).toNat)
    case atStart => exact ⟨0, rfl, Nat.zero_le _, hW, rfl⟩
    case round =>
      obtain ⟨j, rfl, hj, hBr, hr⟩ := hrel
      by_cases hlt : j < l.length
      · obtain ⟨b, off, cp, sv, e1, hb, c0, c1, c2, hsub⟩ := ((HS.out.mono hB).keep hBr).at_ j hlt
        simp only [Value.slice.injEq, true_and] at e1
        obtain ⟨rfl, rfl⟩ := e1
        obtain ⟨a2, cap2, rfl, _, _⟩ := hsub.slice
        rw [List.drop_eq_getElem_cons hlt] at hr
        simp only [Exs.accB] at hr
        have hht := HLT.out _ (List.getElem_mem hlt)
        have hx : ∀ X, Below wr.heap.size wr X → ExAt X X.heap.size (.agg #[.int .u8 (l[j]'hlt).op, .int .i64 (l[j]'hlt).n, .slice a2 (l[j]'hlt).args.length cap2]) (l[j]'hlt) := fun X hX => ⟨_, rfl, (hsub.keep (hX.mono hBr.size)).mono (Nat.le_trans hBr.size hX.size)⟩
        generalize l[j] = y at *
        have HX := Lib.hid hx
        have HR := Lib.hid hr
        clear hr hx hsub
        cases hy : y.accB
        all_goals
          have HY := Lib.hid hy
          clear hy
          go_wp2_with (go_at_call 91; refine (IH.out y hht _ _ _ (HX.out _ ((Below.refl _ _).alloc (Nat.le_refl _) _)) (Nat.le_refl _)).mono ?_; rintro e w3 ⟨rfl, hb3⟩; rw [HY.out])
        · go_roundw
          case rel => exact ⟨j + 1, by go_num, by omega, (hBr.alloc hBr.size _).trans (hb3.mono (by have := hBr.size; simp; omega)), by rw [← HR.out, HY.out, Bool.false_or]⟩
          case measure => simp [intOf]; omega
        · go_ret
          exact ⟨ret_bool (by rw [HE2.out, ← HR.out, HY.out]; rfl), (hBr.alloc hBr.size _).trans (hb3.mono (by have := hBr.size; simp; omega))⟩
      · rw [List.drop_of_length_le (by omega)] at hr
        have HR := Lib.hid hr
        clear hr
        go_wp2
        go_ret
        exact ⟨ret_bool (by rw [HE2.out, ← HR.out]; rfl), hBr⟩

theorem acc_all (h : Nat) : AccC h := by
  induction h using Nat.strongRecOn with
  | ind h ih => exact acc_step h (fun x hx v B w hv hB => ih x.ht hx x v B w (Nat.le_refl _) hv hB)
theorem accs_c (x : Ex) (v : Value) (B : Nat) (w : World) (hv : ExAt w B v x) (hB : B ≤ w.heap.size) :
    Calls Try.prog 91 #[v] w fun e w' => e = .returned (.bool x.accB) ∧ Below w.heap.size w w' := acc_all x.ht x v B w (Nat.le_refl _) hv hB

end Go.Proofs.Ytfieoehchghiiaa
