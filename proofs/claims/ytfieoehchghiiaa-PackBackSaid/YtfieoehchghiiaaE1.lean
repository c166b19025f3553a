/-
  Walks: expr.many, expr.may, expr.May.
-/
import Derived.Test.YtfieoehchghiiaaChecked
import Derived.Test.YtfieoehchghiiaaE0
namespace Go.Proofs.Ytfieoehchghiiaa
open Go.RowKit
set_option linter.unusedVariables false

def manyN (op : Int) : Int := if op = 0 ∨ 18 < op then -1 else if op ≤ 4 then 0 else if op ≤ 6 then 1 else if op = 18 then 3 else 2

set_option maxHeartbeats 400000 in
theorem many_c (op : Int) (w : World) :
    Calls Try.prog 127 #[.int .u8 op] w fun e w' => e = .returned (.int .i64 (manyN op)) ∧ w = w' := by
  go_enter Try.func127, Try.ntmps127
  go_wp2
  all_goals
    go_ret
    exact ⟨ret_int (by unfold manyN; simp_all; try omega), rfl⟩

def shapeB (x : Ex) : Bool := decide (manyN x.op = x.args.length ∧ 0 ≤ x.n ∧ (x.n = 0 ∨ x.op = 1))
/-- Whether an expression may be, but for its depth: k levels are left. -/
def mayB : Nat → Ex → Bool
  | 0, _ => false
  | k + 1, x => shapeB x && x.args.all (mayB k)

theorem quiet_sym {P : Program} {f : FuncId} {args : Array Value} {w : World} {v : Value} (h : Calls P f args w fun e w' => e = .returned v ∧ w = w') : Calls P f args w fun e w' => e = .returned v ∧ w' = w :=
  h.mono fun _ _ ⟨he, hw⟩ => ⟨he, hw.symm⟩

set_option maxHeartbeats 1000000 in
theorem may_false (k : Nat) (x : Ex) (v : Value) (B : Nat) (w : World) (hv : ExAt w B v x) (h : shapeB x = false ∨ k = 0) (i : Int) (hi : i = (k : Int)) :
    Calls Try.prog 111 #[v, .int .i64 i] w fun e w' => e = .returned (.bool false) ∧ Below w.heap.size w w' := by
  obtain ⟨sv, rfl, hs⟩ := hv
  obtain ⟨a, cap, rfl, hcap, hm⟩ := hs.slice
  obtain ⟨op, n, l⟩ := x
  simp only [Ex.op, Ex.n, Ex.args] at *
  have hc : (manyN op != (l.length : Int)) = true ∨ (manyN op != (l.length : Int)) = false ∧ (decide (n < 0) = true ∨ decide (n < 0) = false ∧ (decide (0 < n) = true ∧ (op != 1) = true ∨
      (decide (0 < n) = true ∧ (op != 1) = false ∨ decide (0 < n) = false) ∧ (i == 0) = true)) := by
    have h' : ¬ (manyN op = l.length ∧ 0 ≤ n ∧ (n = 0 ∨ op = 1)) ∨ k = 0 := h.imp (fun h => of_decide_eq_false h) id
    simp only [bne_iff_ne, decide_eq_true_eq, bne_eq_false_iff_eq, decide_eq_false_iff_not, beq_iff_eq]
    omega
  clear h hs hi
  rcases hc with h1 | ⟨h1, h2 | ⟨h2, ⟨h3, h4⟩ | ⟨⟨h3, h4⟩ | h3, h5⟩⟩⟩
  all_goals
    go_enter Try.func111, Try.ntmps111
    go_wp2
    go_quiet ((go_at_call 127; exact Calls.quiet_of_same (quiet_sym (many_c _ _))))
    go_wp2
    go_ret
    exact ⟨rfl, below_drewN ((Below.refl _ _).alloc (Nat.le_refl _) _) _⟩

set_option maxHeartbeats 1000000 in
theorem may_c (k : Nat) : ∀ (x : Ex) (v : Value) (B : Nat) (w : World) (i : Int), ExAt w B v x → i = (k : Int) → k ≤ 1000 → B ≤ w.heap.size →
    Calls Try.prog 111 #[v, .int .i64 i] w fun e w' => e = .returned (.bool (mayB k x)) ∧ Below w.heap.size w w' := by
  induction k with
  | zero => exact fun x v B w i hv hi _ _ => may_false 0 x v B w hv (.inr rfl) i hi
  | succ k ihk =>
    intro x v B w i hv hi hk hB
    cases hsh : shapeB x
    · have hf := may_false (k + 1) x v B w hv (.inl hsh) i hi
      exact hf.mono fun e w' ⟨he, hw⟩ => ⟨by rw [he]; simp only [mayB]; rw [hsh]; rfl, hw⟩
    · have hm : Hid (mayB (k + 1) x = x.args.all (mayB k)) := by simp only [Hid, mayB]; rw [hsh, Bool.true_and]
      have hsh' : manyN x.op = x.args.length ∧ 0 ≤ x.n ∧ (x.n = 0 ∨ x.op = 1) := of_decide_eq_true hsh
      obtain ⟨sv, rfl, hs⟩ := hv
      obtain ⟨a, cap, rfl, hcap, hmx⟩ := hs.slice
      obtain ⟨op, n, l⟩ := x
      simp only [Ex.op, Ex.n, Ex.args] at *
      have h1 : (manyN op != (l.length : Int)) = false := by simpa using hsh'.1
      have h2 : decide (n < 0) = false := by simp; omega
      have hl3 : l.length ≤ 3 := by
        have := hsh'.1
        unfold manyN at this
        repeat' split at this
        all_goals omega
      have h5 : (i == 0) = false := by simp; omega
      have h6 := IntWalk.i64_in (i - 1)
      have h7 : 0 ≤ i ∧ i ≤ 1000 := by omega
      obtain ⟨h71, h72⟩ := h7
      have hcase : (decide (0 < n) = true ∧ (op != 1) = false) ∨ decide (0 < n) = false := by
        by_cases h0 : 0 < n
        · have : op = 1 := by omega
          subst this; exact .inl ⟨by simpa using h0, rfl⟩
        · exact .inr (by simpa using h0)
      have HS := Lib.hid hs
      have IH := Lib.hid ihk
      clear ihk
      have HI := Lib.hid hi
      clear hsh' hsh hs hi
      rcases hcase with ⟨h3, h4⟩ | h3
      all_goals
        go_enter Try.func111, Try.ntmps111
        go_wp2
        go_quiet ((go_at_call 127; exact Calls.quiet_of_same (quiet_sym (many_c _ _))))
        go_wp2_with fail
        have hW := below_drewN ((Below.refl w.heap.size w).alloc (Nat.le_refl _) (.cells #[.int .u8 op, .int .i64 n, .slice a l.length cap] 35)) nq
        generalize World.drewN (World.alloc w _) nq = W at *
        go_loopw [36] (fun q wr => ∃ j : Nat, q = .int .i64 j ∧ j ≤ l.length ∧ Below w.heap.size w wr ∧ (l.drop j).all (mayB k) = l.all (mayB k)) (fun q _ => l.length - (intOf q).toNat)
        case atStart => exact ⟨0, rfl, Nat.zero_le _, hW, rfl⟩
        case round =>
          obtain ⟨j, rfl, hj, hBr, hr⟩ := hrel
          by_cases hlt : j < l.length
          · obtain ⟨b, off, cap', sv', e', hb', c0, c1, c2, hsub⟩ := ((HS.out.mono hB).keep hBr).at_ j hlt
            simp only [Value.slice.injEq, true_and] at e'
            obtain ⟨rfl, rfl⟩ := e'
            obtain ⟨a2, cap2, rfl, _, _⟩ := hsub.slice
            rw [List.drop_eq_getElem_cons hlt, List.all_cons] at hr
            have hx : ∀ X, Below wr.heap.size wr X → ExAt X X.heap.size (.agg #[.int .u8 (l[j]'hlt).op, .int .i64 (l[j]'hlt).n, .slice a2 (l[j]'hlt).args.length cap2]) (l[j]'hlt) := fun X hX => ⟨_, rfl, (hsub.keep (hX.mono hBr.size)).mono (Nat.le_trans hBr.size hX.size)⟩
            generalize l[j] = y at *
            have HX := Lib.hid hx
            have HR := Lib.hid hr
            clear hr hx hsub
            cases hy : mayB k y
            all_goals
              have HY := Lib.hid hy
              clear hy
              go_wp2_with (go_at_call 111; refine (IH.out y _ _ _ _ (HX.out _ ((Below.refl _ _).alloc (Nat.le_refl _) _)) (by have := HI.out; omega) (by omega) (Nat.le_refl _)).mono ?_; rintro e w3 ⟨rfl, hb3⟩; rw [HY.out])
            · go_ret
              exact ⟨ret_bool (by rw [hm.out, ← HR.out, HY.out]; rfl), (hBr.alloc hBr.size _).trans (hb3.mono (by have := hBr.size; simp; omega))⟩
            · go_roundw
              case rel => exact ⟨j + 1, by go_num, by omega, (hBr.alloc hBr.size _).trans (hb3.mono (by have := hBr.size; simp; omega)), by rw [← HR.out, HY.out, Bool.true_and]⟩
              case measure => simp [intOf]; omega
          · rw [List.drop_of_length_le (by omega)] at hr
            have HR := Lib.hid hr
            clear hr
            go_wp2
            go_ret
            exact ⟨ret_bool (by rw [hm.out, ← HR.out]; rfl), hBr⟩

end Go.Proofs.Ytfieoehchghiiaa
