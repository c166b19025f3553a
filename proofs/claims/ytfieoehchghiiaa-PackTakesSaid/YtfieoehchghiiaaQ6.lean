/-
  Walks of the reference's types: Accs, of.
-/
import Derived.Test.YtfieoehchghiiaaMQ
import Derived.Test.YtfieoehchghiiaaF3
namespace Go.Proofs.Ytfieoehchghiiaa
open Go.RowKit
set_option linter.unusedVariables false

theorem Exs.accB_any : ∀ l : List Ex, Exs.accB l = l.any Ex.accB
  | [] => rfl
  | x :: l => by simp only [Exs.accB, List.any_cons]; rw [Exs.accB_any l]

def RAccC (h : Nat) : Prop := ∀ (x : Ex) (v : Value) (B : Nat) (w : World), x.ht ≤ h → ExAt w B v x → B ≤ w.heap.size →
  Calls Try.prog 96 #[v] w fun e w' => e = .returned (.bool x.accB) ∧ Below w.heap.size w w'

set_option maxHeartbeats 1000000 in
theorem racc_step (h : Nat) (IH : Hid (∀ x : Ex, x.ht < h → ∀ (v : Value) (B : Nat) (w : World), ExAt w B v x → B ≤ w.heap.size →
      Calls Try.prog 96 #[v] w fun e w' => e = .returned (.bool x.accB) ∧ Below w.heap.size w w')) : RAccC h := by
  intro x v B w hh hv hB
  have HLT : Hid (∀ a ∈ x.args, a.ht < h) := fun a ha => by have := Ex.ht_args x a ha; omega
  have HE : Hid (x.accB = (x.op == 4 || x.args.any Ex.accB)) := by show _ = _; rw [Ex.accB_eq, Exs.accB_any]
  obtain ⟨sv, rfl, hs⟩ := hv
  obtain ⟨a, cap, rfl, hcap, hmx⟩ := hs.slice
  have HS := Lib.hid hs
  have hlm : x.args.length ≤ 9223372036854775807 := by unfold maxLen at hmx; omega
  generalize x.op = o at *
  generalize x.n = n at *
  generalize x.args = l at *
  clear hs hh
  have hW := (Below.refl w.heap.size w).alloc (Nat.le_refl _) (.cells #[.int .u8 o, .int .i64 n, .slice a l.length cap] 35)
  have hbx := Blk.new w #[.int .u8 o, .int .i64 n, .slice a l.length cap] 35
  have hz : w.heap.size < (w.alloc (.cells #[.int .u8 o, .int .i64 n, .slice a l.length cap] 35)).heap.size := hbx.lt
  go_enter Try.func96, Try.ntmps96
  go_wp2
  generalize World.alloc w _ = W at *
  go_loopw [3] (fun q wr => ∃ j : Nat, q = .int .i64 j ∧ j ≤ l.length ∧ Below W.heap.size W wr ∧ (l.drop j).any Ex.accB = l.any Ex.accB) (fun q _ => l.length - (intOf q).toNat)
  case atStart => exact ⟨0, rfl, Nat.zero_le _, Below.refl _ _, rfl⟩
  case round =>
    obtain ⟨j, rfl, hj, hBr0, hr⟩ := hrel
    have hBr := hW.trans (hBr0.mono (by omega))
    have hbr2 := hbx.below hBr0 hz
    have p0 := hbr2.cell 0
    have p2 := hbr2.cell 2
    by_cases hlt : j < l.length
    · obtain ⟨b, off, cp, sv, e1, hb, c0, c1, c2, hsub⟩ := ((HS.out.mono hB).keep hBr).at_ j hlt
      simp only [Value.slice.injEq, true_and] at e1
      obtain ⟨rfl, rfl⟩ := e1
      obtain ⟨a2, cap2, rfl, _, _⟩ := hsub.slice
      rw [List.drop_eq_getElem_cons hlt, List.any_cons] at hr
      have hht := HLT.out _ (List.getElem_mem hlt)
      generalize l[j] = y at *
      have HX : Hid (ExAt wr wr.heap.size (.agg #[.int .u8 y.op, .int .i64 y.n, .slice a2 y.args.length cap2]) y) := ⟨_, rfl, hsub.mono hBr.size⟩
      have HR := Lib.hid hr
      clear hr hsub
      cases hy : y.accB
      all_goals
        have HY := Lib.hid hy
        clear hy
        go_wp2_with (go_at_call 96; refine (IH.out y hht _ _ _ HX.out (Nat.le_refl _)).mono ?_; rintro e w3 ⟨rfl, hb3⟩; rw [HY.out])
      · go_roundw
        case rel => exact ⟨j + 1, by go_num, by omega, hBr0.trans (hb3.mono hBr0.size), by rw [← HR.out, HY.out, Bool.false_or]⟩
        case measure => simp [intOf]; omega
      · go_ret
        exact ⟨ret_bool (by rw [HE.out, ← HR.out, HY.out, Bool.true_or, Bool.or_true]), hBr.trans (hb3.mono hBr.size)⟩
    · rw [List.drop_of_length_le (by omega)] at hr
      have HR := Lib.hid hr
      clear hr
      go_wp2
      go_ret
      exact ⟨ret_bool (by rw [HE.out, ← HR.out, List.any_nil, Bool.or_false]), hBr⟩

theorem racc_all (h : Nat) : RAccC h := by
  induction h using Nat.strongRecOn with
  | ind h ih => exact racc_step h (fun x hx v B w hv hB => ih x.ht hx x v B w (Nat.le_refl _) hv hB)

/-- What the reference makes of the types of what an Op is of. -/
def allGo : List Int → Bool → Int → Int
  | [], _, a => a
  | t :: ts, first, a => allGo ts false (if first || (a == t) then t else 3)
def refTy (op : Int) (ts : List Int) : Int :=
  if ts.any (· == 0) then 0
  else
    let all := allGo ts true 0
    if op = 1 ∨ op = 2 ∨ op = 3 ∨ op = 4 then 1
    else if op = 5 ∨ op = 7 ∨ op = 8 ∨ op = 9 ∨ op = 10 ∨ op = 11 then (if all = 1 then 1 else 0)
    else if op = 6 ∨ op = 16 ∨ op = 17 then (if all = 2 then 2 else 0)
    else if op = 12 ∨ op = 13 then (if all = 1 then 2 else 0)
    else if op = 14 ∨ op = 15 then (if all ≠ 3 then 2 else 0)
    else if op = 18 then (if ts.getD 0 0 = 2 ∧ ts.getD 1 0 = ts.getD 2 0 then ts.getD 1 0 else 0)
    else 0

end Go.Proofs.Ytfieoehchghiiaa
