/-
  Walks: expr.Same (by slices.EqualFunc), expr.May.
-/
import Derived.Test.YtfieoehchghiiaaE1
namespace Go.Proofs.Ytfieoehchghiiaa
open Go.RowKit
set_option linter.unusedVariables false

mutual
def Ex.sameB : Ex → Ex → Bool
  | .mk o n l, .mk o' n' l' => decide (o = o') && (decide (n = n') && Exs.sameB l l')
def Exs.sameB : List Ex → List Ex → Bool
  | [], [] => true
  | x :: l, y :: m => x.sameB y && Exs.sameB l m
  | _, _ => false
end

theorem Exs.sameB_len : ∀ (l m : List Ex), l.length ≠ m.length → Exs.sameB l m = false
  | [], [], h => absurd rfl h
  | [], _ :: _, _ => rfl
  | _ :: _, [], _ => rfl
  | x :: l, y :: m, h => by simp only [Exs.sameB]; rw [Exs.sameB_len l m (by simpa using h), Bool.and_false]
theorem Ex.sameB_eq (x y : Ex) : x.sameB y = (decide (x.op = y.op) && (decide (x.n = y.n) && Exs.sameB x.args y.args)) := by
  obtain ⟨o, n, l⟩ := x; obtain ⟨o', n', l'⟩ := y; rfl

/-- The contract of expr.Same at expressions that are no higher than h. -/
def SameC (h : Nat) : Prop := ∀ (x y : Ex) (v u : Value) (B : Nat) (w : World), x.ht ≤ h → ExAt w B v x → ExAt w B u y → B ≤ w.heap.size →
  Calls Try.prog 42 #[v, u] w fun e w' => e = .returned (.bool (x.sameB y)) ∧ Below w.heap.size w w'

set_option maxHeartbeats 1000000 in
theorem eqFunc_c (h : Nat) (IH : Hid (SameC h)) (l m : List Ex) (hlh : ∀ x ∈ l, x.ht ≤ h) (v u : Value) (B : Nat) (w : World) (hv : ArgsAt w B l v) (hu : ArgsAt w B m u) (hB : B ≤ w.heap.size) :
    Calls Try.prog 79 #[v, u, .func (.func 42) #[] #[]] w fun e w' => e = .returned (.bool (Exs.sameB l m)) ∧ Below w.heap.size w w' := by
  obtain ⟨a, cap, rfl, hcap, hmx⟩ := hv.slice
  obtain ⟨a', cap', rfl, hcap', hmx'⟩ := hu.slice
  by_cases hlen : l.length = m.length
  · obtain ⟨n, hn⟩ : ∃ n, l.length = n := ⟨_, rfl⟩
    have hn' : m.length = n := by omega
    have HV := Lib.hid hv
    have HU := Lib.hid hu
    have HN := Lib.hid hn
    have HN' := Lib.hid hn'
    have HLH := Lib.hid hlh
    have hnm : n ≤ 9223372036854775807 := by unfold maxLen at hmx; omega
    rw [hn, hn']
    clear hv hu hlh hn hn' hlen
    go_enter Try.func79, Try.ntmps79
    go_wp2
    go_loopw [17] (fun q wr => ∃ j : Nat, q = .int .i64 j ∧ j ≤ n ∧ Below w.heap.size w wr ∧ Exs.sameB (l.drop j) (m.drop j) = Exs.sameB l m) (fun q _ => n - (intOf q).toNat)
    case atStart => exact ⟨0, rfl, Nat.zero_le _, Below.refl _ _, rfl⟩
    case round =>
      obtain ⟨j, rfl, hj, hBr, hr⟩ := hrel
      by_cases hlt : j < n
      · have hj1 : j < l.length := by have := HN.out; omega
        have hj2 : j < m.length := by have := HN'.out; omega
        obtain ⟨b, off, cp, sv, e1, hb, c0, c1, c2, hsub⟩ := ((HV.out.mono hB).keep hBr).at_ j hj1
        obtain ⟨b', off', cp', sv', e2, hb', d0, d1, d2, hsub'⟩ := ((HU.out.mono hB).keep hBr).at_ j hj2
        rw [HN.out] at e1
        rw [HN'.out] at e2
        simp only [Value.slice.injEq, true_and] at e1 e2
        obtain ⟨rfl, rfl⟩ := e1
        obtain ⟨rfl, rfl⟩ := e2
        obtain ⟨a2, cap2, rfl, _, _⟩ := hsub.slice
        obtain ⟨a3, cap3, rfl, _, _⟩ := hsub'.slice
        rw [List.drop_eq_getElem_cons hj1, List.drop_eq_getElem_cons hj2] at hr
        simp only [Exs.sameB] at hr
        have hbw := Nat.lt_of_lt_of_le hb hBr.size
        have hbw' := Nat.lt_of_lt_of_le hb' hBr.size
        have hht := HLH.out _ (List.getElem_mem hj1)
        have hx : ∀ X, Below wr.heap.size wr X → ExAt X X.heap.size (.agg #[.int .u8 (l[j]'hj1).op, .int .i64 (l[j]'hj1).n, .slice a2 (l[j]'hj1).args.length cap2]) (l[j]'hj1) := fun X hX => ⟨_, rfl, (hsub.keep (hX.mono hBr.size)).mono (Nat.le_trans hBr.size hX.size)⟩
        have hy : ∀ X, Below wr.heap.size wr X → ExAt X X.heap.size (.agg #[.int .u8 (m[j]'hj2).op, .int .i64 (m[j]'hj2).n, .slice a3 (m[j]'hj2).args.length cap3]) (m[j]'hj2) := fun X hX => ⟨_, rfl, (hsub'.keep (hX.mono hBr.size)).mono (Nat.le_trans hBr.size hX.size)⟩
        generalize l[j] = x at *
        generalize m[j] = y at *
        have HX := Lib.hid hx
        have HY := Lib.hid hy
        have HR := Lib.hid hr
        clear hr hx hy hsub hsub'
        cases hs : x.sameB y
        all_goals
          have HS := Lib.hid hs
          clear hs
          go_wp2_with (go_at_call 42; refine (IH.out x y _ _ _ _ hht (HX.out _ (((Below.refl _ _).alloc (Nat.le_refl _) _).alloc (by simp) _)) (HY.out _ (((Below.refl _ _).alloc (Nat.le_refl _) _).alloc (by simp) _)) (Nat.le_refl _)).mono ?_; rintro e w3 ⟨rfl, hb3⟩; rw [HS.out])
        · go_ret
          exact ⟨ret_bool (by rw [← HR.out, HS.out]; rfl), ((hBr.alloc hBr.size _).alloc (by have := hBr.size; simp; omega) _).trans (hb3.mono (by have := hBr.size; simp; omega))⟩
        · go_roundw
          case rel => exact ⟨j + 1, by go_num, by omega, ((hBr.alloc hBr.size _).alloc (by have := hBr.size; simp; omega) _).trans (hb3.mono (by have := hBr.size; simp; omega)), by rw [← HR.out, HS.out, Bool.true_and]⟩
          case measure => simp [intOf]; omega
      · rw [List.drop_of_length_le (by have := HN.out; omega), List.drop_of_length_le (by have := HN'.out; omega)] at hr
        have HR := Lib.hid hr
        clear hr
        go_wp2
        go_ret
        exact ⟨ret_bool (by rw [← HR.out]; rfl), hBr⟩
  · have hne : ((l.length : Int) != (m.length : Int)) = true := by rw [bne_iff_ne]; omega
    have HF := Lib.hid (Exs.sameB_len l m hlen)
    clear hlen hv hu
    go_enter Try.func79, Try.ntmps79
    go_wp2
    go_ret
    exact ⟨ret_bool HF.out.symm, Below.refl _ _⟩

set_option maxHeartbeats 1000000 in
theorem same_step (h : Nat) (IH : Hid (∀ x y : Ex, x.ht < h → ∀ (v u : Value) (B : Nat) (w : World), ExAt w B v x → ExAt w B u y → B ≤ w.heap.size →
      Calls Try.prog 42 #[v, u] w fun e w' => e = .returned (.bool (x.sameB y)) ∧ Below w.heap.size w w')) : SameC h := by
  intro x y v u B w hh hv hu hB
  have IH2 : Hid (∀ k, k + 1 = h → SameC k) := fun k hk x y v u B w hx => IH.out x y (by omega) v u B w
  have hargs : ∀ a ∈ x.args, a.ht ≤ h - 1 := fun a ha => by have := Ex.ht_args x a ha; omega
  have hpos : 1 ≤ h := by
    obtain ⟨o, n, l⟩ := x
    simp only [Ex.ht] at hh
    omega
  have HE := Lib.hid (Ex.sameB_eq x y)
  obtain ⟨sv, rfl, hs⟩ := hv
  obtain ⟨su, rfl, ht⟩ := hu
  obtain ⟨a, cap, rfl, hcap, hmx⟩ := hs.slice
  obtain ⟨a', cap', rfl, hcap', hmx'⟩ := ht.slice
  have HS := Lib.hid hs
  have HT := Lib.hid ht
  have HA := Lib.hid hargs
  generalize x.op = o at *
  generalize x.n = n at *
  generalize y.op = o' at *
  generalize y.n = n' at *
  clear hs ht hargs hh IH
  by_cases h1 : o = o'
  · by_cases h2 : n = n'
    · have hq1 : (o == o') = true := by simpa using h1
      have hq2 : (n == n') = true := by simpa using h2
      have HE2 : Hid (x.sameB y = Exs.sameB x.args y.args) := by show _ = _; rw [HE.out, decide_eq_true h1, decide_eq_true h2]; rfl
      clear h1 h2 HE
      go_enter Try.func42, Try.ntmps42
      go_wp2_with (go_at_call 79; refine (eqFunc_c (h - 1) (IH2.out (h - 1) (by omega)) x.args y.args HA.out _ _ B _ (HS.out.keep (((Below.refl _ _).alloc hB _).alloc (by simp; omega) _)) (HT.out.keep (((Below.refl _ _).alloc hB _).alloc (by simp; omega) _)) (by simp; omega)).mono ?_; rintro e w3 ⟨rfl, hb3⟩)
      go_ret
      exact ⟨ret_bool HE2.out.symm, (((Below.refl _ _).alloc (Nat.le_refl _) _).alloc (by simp) _).trans (hb3.mono (by simp; omega))⟩
    · have hq1 : (o == o') = true := by simpa using h1
      have hq2 : (n == n') = false := by simpa using h2
      have HE2 : Hid (x.sameB y = false) := by show _ = _; rw [HE.out, decide_eq_false h2, Bool.false_and, Bool.and_false]
      clear h1 h2 HE
      go_enter Try.func42, Try.ntmps42
      go_wp2
      go_ret
      exact ⟨ret_bool HE2.out.symm, (((Below.refl _ _).alloc (Nat.le_refl _) _).alloc (by simp) _)⟩
  · have hq1 : (o == o') = false := by simpa using h1
    have HE2 : Hid (x.sameB y = false) := by show _ = _; rw [HE.out, decide_eq_false h1, Bool.false_and]
    clear h1 HE
    go_enter Try.func42, Try.ntmps42
    go_wp2
    go_ret
    exact ⟨ret_bool HE2.out.symm, (((Below.refl _ _).alloc (Nat.le_refl _) _).alloc (by simp) _)⟩

theorem same_all (h : Nat) : SameC h := by
  induction h using Nat.strongRecOn with
  | ind h ih => exact same_step h (fun x y hx v u B w hv hu hB => ih x.ht hx x y v u B w (Nat.le_refl _) hv hu hB)
/-- expr.Same. -/
theorem Same_c (x y : Ex) (v u : Value) (B : Nat) (w : World) (hv : ExAt w B v x) (hu : ExAt w B u y) (hB : B ≤ w.heap.size) :
    Calls Try.prog 42 #[v, u] w fun e w' => e = .returned (.bool (x.sameB y)) ∧ Below w.heap.size w w' := same_all x.ht x y v u B w (Nat.le_refl _) hv hu hB

end Go.Proofs.Ytfieoehchghiiaa
