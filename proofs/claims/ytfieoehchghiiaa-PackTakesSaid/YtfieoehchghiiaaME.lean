/-
  Walks: expr.many, expr.may, expr.May.
  Walks: expr.Same (by slices.EqualFunc), expr.May.
  Walks: expr.May, law08.Size.
-/
import Derived.Test.YtfieoehchghiiaaChecked
import Derived.Test.YtfieoehchghiiaaE0

namespace Go.Proofs.Ytfieoehchghiiaa
open Go.RowKit
set_option linter.unusedVariables false

def manyN (op : Int) : Int := if op = 0 ∨ 18 < op then -1 else if op ≤ 4 then 0 else if op ≤ 6 then 1 else if op = 18 then 3 else 2

set_option maxHeartbeats 400000 in
theorem many_c (op : Int) (w : World) :
    Calls Try.prog 127 #[.int .u8 op] w fun e w' => e = .returned (.int .i64 (manyN op)) ∧ w = w' := by
  go_enter Try.func127, Try.ntmps127
  go_wp2
  all_goals
    go_ret
    exact ⟨ret_int (by unfold manyN; simp_all; try omega), rfl⟩

def shapeB (x : Ex) : Bool := decide (manyN x.op = x.args.length ∧ 0 ≤ x.n ∧ (x.n = 0 ∨ x.op = 1))
/-- Whether an expression may be, but for its depth: k levels are left. -/
def mayB : Nat → Ex → Bool
  | 0, _ => false
  | k + 1, x => shapeB x && x.args.all (mayB k)

theorem quiet_sym {P : Program} {f : FuncId} {args : Array Value} {w : World} {v : Value} (h : Calls P f args w fun e w' => e = .returned v ∧ w = w') : Calls P f args w fun e w' => e = .returned v ∧ w' = w :=
  h.mono fun _ _ ⟨he, hw⟩ => ⟨he, hw.symm⟩

set_option maxHeartbeats 1000000 in
theorem may_false (k : Nat) (x : Ex) (v : Value) (B : Nat) (w : World) (hv : ExAt w B v x) (h : shapeB x = false ∨ k = 0) (i : Int) (hi : i = (k : Int)) :
    Calls Try.prog 111 #[v, .int .i64 i] w fun e w' => e = .returned (.bool false) ∧ Below w.heap.size w w' := by
  obtain ⟨sv, rfl, hs⟩ := hv
  obtain ⟨a, cap, rfl, hcap, hm⟩ := hs.slice
  obtain ⟨op, n, l⟩ := x
  simp only [Ex.op, Ex.n, Ex.args] at *
  have hc : (manyN op != (l.length : Int)) = true ∨ (manyN op != (l.length : Int)) = false ∧ (decide (n < 0) = true ∨ decide (n < 0) = false ∧ (decide (0 < n) = true ∧ (op != 1) = true ∨
      (decide (0 < n) = true ∧ (op != 1) = false ∨ decide (0 < n) = false) ∧ (i == 0) = true)) := by
    have h' : ¬ (manyN op = l.length ∧ 0 ≤ n ∧ (n = 0 ∨ op = 1)) ∨ k = 0 := h.imp (fun h => of_decide_eq_false h) id
    simp only [bne_iff_ne, decide_eq_true_eq, bne_eq_false_iff_eq, decide_eq_false_iff_not, beq_iff_eq]
    omega
  clear h hs hi
  rcases hc with h1 | ⟨h1, h2 | ⟨h2, ⟨h3, h4⟩ | ⟨⟨h3, h4⟩ | h3, h5⟩⟩⟩
  all_goals
    go_enter Try.func111, Try.ntmps111
    go_wp2
    go_quiet ((go_at_call 127; exact Calls.quiet_of_same (quiet_sym (many_c _ _))))
    go_wp2
    go_ret
    exact ⟨rfl, below_drewN ((Below.refl _ _).alloc (Nat.le_refl _) _) _⟩

set_option maxHeartbeats 1000000 in
theorem may_c (k : Nat) : ∀ (x : Ex) (v : Value) (B : Nat) (w : World) (i : Int), ExAt w B v x → i = (k : Int) → k ≤ 1000 → B ≤ w.heap.size →
    Calls Try.prog 111 #[v, .int .i64 i] w fun e w' => e = .returned (.bool (mayB k x)) ∧ Below w.heap.size w w' := by
  induction k with
  | zero => exact fun x v B w i hv hi _ _ => may_false 0 x v B w hv (.inr rfl) i hi
  | succ k ihk =>
    intro x v B w i hv hi hk hB
    cases hsh : shapeB x
    · have hf := may_false (k + 1) x v B w hv (.inl hsh) i hi
      exact hf.mono fun e w' ⟨he, hw⟩ => ⟨by rw [he]; simp only [mayB]; rw [hsh]; rfl, hw⟩
    · have hm : Hid (mayB (k + 1) x = x.args.all (mayB k)) := by simp only [Hid, mayB]; rw [hsh, Bool.true_and]
      have hsh' : manyN x.op = x.args.length ∧ 0 ≤ x.n ∧ (x.n = 0 ∨ x.op = 1) := of_decide_eq_true hsh
      obtain ⟨sv, rfl, hs⟩ := hv
      obtain ⟨a, cap, rfl, hcap, hmx⟩ := hs.slice
      obtain ⟨op, n, l⟩ := x
      simp only [Ex.op, Ex.n, Ex.args] at *
      have h1 : (manyN op != (l.length : Int)) = false := by simpa using hsh'.1
      have h2 : decide (n < 0) = false := by simp; omega
      have hl3 : l.length ≤ 3 := by
        have := hsh'.1
        unfold manyN at this
        repeat' split at this
        all_goals omega
      have h5 : (i == 0) = false := by simp; omega
      have h6 := IntWalk.i64_in (i - 1)
      have h7 : 0 ≤ i ∧ i ≤ 1000 := by omega
      obtain ⟨h71, h72⟩ := h7
      have hcase : (decide (0 < n) = true ∧ (op != 1) = false) ∨ decide (0 < n) = false := by
        by_cases h0 : 0 < n
        · have : op = 1 := by omega
          subst this; exact .inl ⟨by simpa using h0, rfl⟩
        · exact .inr (by simpa using h0)
      have HS := Lib.hid hs
      have IH := Lib.hid ihk
      clear ihk
      have HI := Lib.hid hi
      clear hsh' hsh hs hi
      rcases hcase with ⟨h3, h4⟩ | h3
      all_goals
        go_enter Try.func111, Try.ntmps111
        go_wp2
        go_quiet ((go_at_call 127; exact Calls.quiet_of_same (quiet_sym (many_c _ _))))
        go_wp2_with fail
        have hW := below_drewN ((Below.refl w.heap.size w).alloc (Nat.le_refl _) (.cells #[.int .u8 op, .int .i64 n, .slice a l.length cap] 35)) nq
        generalize World.drewN (World.alloc w _) nq = W at *
        go_loopw [36] (fun q wr => ∃ j : Nat, q = .int .i64 j ∧ j ≤ l.length ∧ Below w.heap.size w wr ∧ (l.drop j).all (mayB k) = l.all (mayB k)) (fun q _ => l.length - (intOf q).toNat)
        case atStart => exact ⟨0, rfl, Nat.zero_le _, hW, rfl⟩
        case round =>
          obtain ⟨j, rfl, hj, hBr, hr⟩ := hrel
          by_cases hlt : j < l.length
          · obtain ⟨b, off, cap', sv', e', hb', c0, c1, c2, hsub⟩ := ((HS.out.mono hB).keep hBr).at_ j hlt
            simp only [Value.slice.injEq, true_and] at e'
            obtain ⟨rfl, rfl⟩ := e'
            obtain ⟨a2, cap2, rfl, _, _⟩ := hsub.slice
            rw [List.drop_eq_getElem_cons hlt, List.all_cons] at hr
            have hx : ∀ X, Below wr.heap.size wr X → ExAt X X.heap.size (.agg #[.int .u8 (l[j]'hlt).op, .int .i64 (l[j]'hlt).n, .slice a2 (l[j]'hlt).args.length cap2]) (l[j]'hlt) := fun X hX => ⟨_, rfl, (hsub.keep (hX.mono hBr.size)).mono (Nat.le_trans hBr.size hX.size)⟩
            generalize l[j] = y at *
            have HX := Lib.hid hx
            have HR := Lib.hid hr
            clear hr hx hsub
            cases hy : mayB k y
            all_goals
              have HY := Lib.hid hy
              clear hy
              go_wp2_with (go_at_call 111; refine (IH.out y _ _ _ _ (HX.out _ ((Below.refl _ _).alloc (Nat.le_refl _) _)) (by have := HI.out; omega) (by omega) (Nat.le_refl _)).mono ?_; rintro e w3 ⟨rfl, hb3⟩; rw [HY.out])
            · go_ret
              exact ⟨ret_bool (by rw [hm.out, ← HR.out, HY.out]; rfl), (hBr.alloc hBr.size _).trans (hb3.mono (by have := hBr.size; simp; omega))⟩
            · go_roundw
              case rel => exact ⟨j + 1, by go_num, by omega, (hBr.alloc hBr.size _).trans (hb3.mono (by have := hBr.size; simp; omega)), by rw [← HR.out, HY.out, Bool.true_and]⟩
              case measure => simp [intOf]; omega
          · rw [List.drop_of_length_le (by omega)] at hr
            have HR := Lib.hid hr
            clear hr
            go_wp2
            go_ret
            exact ⟨ret_bool (by rw [hm.out, ← HR.out]; rfl), hBr⟩

end Go.Proofs.Ytfieoehchghiiaa

namespace Go.Proofs.Ytfieoehchghiiaa
open Go.RowKit
set_option linter.unusedVariables false

mutual
def Ex.sameB : Ex → Ex → Bool
  | .mk o n l, .mk o' n' l' => decide (o = o') && (decide (n = n') && Exs.sameB l l')
def Exs.sameB : List Ex → List Ex → Bool
  | [], [] => true
  | x :: l, y :: m => x.sameB y && Exs.sameB l m
  | _, _ => false
end

theorem Exs.sameB_len : ∀ (l m : List Ex), l.length ≠ m.length → Exs.sameB l m = false
  | [], [], h => absurd rfl h
  | [], _ :: _, _ => rfl
  | _ :: _, [], _ => rfl
  | x :: l, y :: m, h => by simp only [Exs.sameB]; rw [Exs.sameB_len l m (by simpa using h), Bool.and_false]
theorem Ex.sameB_eq (x y : Ex) : x.sameB y = (decide (x.op = y.op) && (decide (x.n = y.n) && Exs.sameB x.args y.args)) := by
  obtain ⟨o, n, l⟩ := x; obtain ⟨o', n', l'⟩ := y; rfl

/-- The contract of expr.Same at expressions that are no higher than h. -/
def SameC (h : Nat) : Prop := ∀ (x y : Ex) (v u : Value) (B : Nat) (w : World), x.ht ≤ h → ExAt w B v x → ExAt w B u y → B ≤ w.heap.size →
  Calls Try.prog 42 #[v, u] w fun e w' => e = .returned (.bool (x.sameB y)) ∧ Below w.heap.size w w'

set_option maxHeartbeats 1000000 in
theorem eqFunc_c (h : Nat) (IH : Hid (SameC h)) (l m : List Ex) (hlh : ∀ x ∈ l, x.ht ≤ h) (v u : Value) (B : Nat) (w : World) (hv : ArgsAt w B l v) (hu : ArgsAt w B m u) (hB : B ≤ w.heap.size) :
    Calls Try.prog 79 #[v, u, .func (.func 42) #[] #[]] w fun e w' => e = .returned (.bool (Exs.sameB l m)) ∧ Below w.heap.size w w' := by
  obtain ⟨a, cap, rfl, hcap, hmx⟩ := hv.slice
  obtain ⟨a', cap', rfl, hcap', hmx'⟩ := hu.slice
  by_cases hlen : l.length = m.length
  · obtain ⟨n, hn⟩ : ∃ n, l.length = n := ⟨_, rfl⟩
    have hn' : m.length = n := by omega
    have HV := Lib.hid hv
    have HU := Lib.hid hu
    have HN := Lib.hid hn
    have HN' := Lib.hid hn'
    have HLH := Lib.hid hlh
    have hnm : n ≤ 9223372036854775807 := by unfold maxLen at hmx; omega
    rw [hn, hn']
    clear hv hu hlh hn hn' hlen
    go_enter Try.func79, Try.ntmps79
    go_wp2
    go_loopw [17] (fun q wr => ∃ j : Nat, q = .int .i64 j ∧ j ≤ n ∧ Below w.heap.size w wr ∧ Exs.sameB (l.drop j) (m.drop j) = Exs.sameB l m) (fun q _ => n - (intOf q).toNat)
    case atStart => exact ⟨0, rfl, Nat.zero_le _, Below.refl _ _, rfl⟩
    case round =>
      obtain ⟨j, rfl, hj, hBr, hr⟩ := hrel
      by_cases hlt : j < n
      · have hj1 : j < l.length := by have := HN.out; omega
        have hj2 : j < m.length := by have := HN'.out; omega
        obtain ⟨b, off, cp, sv, e1, hb, c0, c1, c2, hsub⟩ := ((HV.out.mono hB).keep hBr).at_ j hj1
        obtain ⟨b', off', cp', sv', e2, hb', d0, d1, d2, hsub'⟩ := ((HU.out.mono hB).keep hBr).at_ j hj2
        rw [HN.out] at e1
        rw [HN'.out] at e2
        simp only [Value.slice.injEq, true_and] at e1 e2
        obtain ⟨rfl, rfl⟩ := e1
        obtain ⟨rfl, rfl⟩ := e2
        obtain ⟨a2, cap2, rfl, _, _⟩ := hsub.slice
        obtain ⟨a3, cap3, rfl, _, _⟩ := hsub'.slice
        rw [List.drop_eq_getElem_cons hj1, List.drop_eq_getElem_cons hj2] at hr
        simp only [Exs.sameB] at hr
        have hbw := Nat.lt_of_lt_of_le hb hBr.size
        have hbw' := Nat.lt_of_lt_of_le hb' hBr.size
        have hht := HLH.out _ (List.getElem_mem hj1)
        have hx : ∀ X, Below wr.heap.size wr X → ExAt X X.heap.size (.agg #[.int .u8 (l[j]'hj1).op, .int .i64 (l[j]'hj1).n, .slice a2 (l[j]'hj1).args.length cap2]) (l[j]'hj1) := fun X hX => ⟨_, rfl, (hsub.keep (hX.mono hBr.size)).mono (Nat.le_trans hBr.size hX.size)⟩
        have hy : ∀ X, Below wr.heap.size wr X → ExAt X X.heap.size (.agg #[.int .u8 (m[j]'hj2).op, .int .i64 (m[j]'hj2).n, .slice a3 (m[j]'hj2).args.length cap3]) (m[j]'hj2) := fun X hX => ⟨_, rfl, (hsub'.keep (hX.mono hBr.size)).mono (Nat.le_trans hBr.size hX.size)⟩
        generalize l[j] = x at *
        generalize m[j] = y at *
        have HX := Lib.hid hx
        have HY := Lib.hid hy
        have HR := Lib.hid hr
        clear hr hx hy hsub hsub'
        cases hs : x.sameB y
        all_goals
          have HS := Lib.hid hs
          clear hs
          go_wp2_with (go_at_call 42; refine (IH.out x y _ _ _ _ hht (HX.out _ (((Below.refl _ _).alloc (Nat.le_refl _) _).alloc (by simp) _)) (HY.out _ (((Below.refl _ _).alloc (Nat.le_refl _) _).alloc (by simp) _)) (Nat.le_refl _)).mono ?_; rintro e w3 ⟨rfl, hb3⟩; rw [HS.out])
        · go_ret
          exact ⟨ret_bool (by rw [← HR.out, HS.out]; rfl), ((hBr.alloc hBr.size _).alloc (by have := hBr.size; simp; omega) _).trans (hb3.mono (by have := hBr.size; simp; omega))⟩
        · go_roundw
          case rel => exact ⟨j + 1, by go_num, by omega, ((hBr.alloc hBr.size _).alloc (by have := hBr.size; simp; omega) _).trans (hb3.mono (by have := hBr.size; simp; omega)), by rw [← HR.out, HS.out, Bool.true_and]⟩
          case measure => simp [intOf]; omega
      · rw [List.drop_of_length_le (by have := HN.out; omega), List.drop_of_length_le (by have := HN'.out; omega)] at hr
        have HR := Lib.hid hr
        clear hr
        go_wp2
        go_ret
        exact ⟨ret_bool (by rw [← HR.out]; rfl), hBr⟩
  · have hne : ((l.length : Int) != (m.length : Int)) = true := by rw [bne_iff_ne]; omega
    have HF := Lib.hid (Exs.sameB_len l m hlen)
    clear hlen hv hu
    go_enter Try.func79, Try.ntmps79
    go_wp2
    go_ret
    exact ⟨ret_bool HF.out.symm, Below.refl _ _⟩

set_option maxHeartbeats 1000000 in
theorem same_step (h : Nat) (IH : Hid (∀ x y : Ex, x.ht < h → ∀ (v u : Value) (B : Nat) (w : World), ExAt w B v x → ExAt w B u y → B ≤ w.heap.size →
      Calls Try.prog 42 #[v, u] w fun e w' => e = .returned (.bool (x.sameB y)) ∧ Below w.heap.size w w')) : SameC h := by
  intro x y v u B w hh hv hu hB
  have IH2 : Hid (∀ k, k + 1 = h → SameC k) := fun k hk x y v u B w hx => IH.out x y (by omega) v u B w
  have hargs : ∀ a ∈ x.args, a.ht ≤ h - 1 := fun a ha => by have := Ex.ht_args x a ha; omega
  have hpos : 1 ≤ h := by
    obtain ⟨o, n, l⟩ := x
    simp only [Ex.ht] at hh
    omega
  have HE := Lib.hid (Ex.sameB_eq x y)
  obtain ⟨sv, rfl, hs⟩ := hv
  obtain ⟨su, rfl, ht⟩ := hu
  obtain ⟨a, cap, rfl, hcap, hmx⟩ := hs.slice
  obtain ⟨a', cap', rfl, hcap', hmx'⟩ := ht.slice
  have HS := Lib.hid hs
  have HT := Lib.hid ht
  have HA := Lib.hid hargs
  generalize x.op = o at *
  generalize x.n = n at *
  generalize y.op = o' at *
  generalize y.n = n' at *
  clear hs ht hargs hh IH
  by_cases h1 : o = o'
  · by_cases h2 : n = n'
    · have hq1 : (o == o') = true := by simpa using h1
      have hq2 : (n == n') = true := by simpa using h2
      have HE2 : Hid (x.sameB y = Exs.sameB x.args y.args) := by show _ = _; rw [HE.out, decide_eq_true h1, decide_eq_true h2]; rfl
      clear h1 h2 HE
      go_enter Try.func42, Try.ntmps42
      go_wp2_with (go_at_call 79; refine (eqFunc_c (h - 1) (IH2.out (h - 1) (by omega)) x.args y.args HA.out _ _ B _ (HS.out.keep (((Below.refl _ _).alloc hB _).alloc (by simp; omega) _)) (HT.out.keep (((Below.refl _ _).alloc hB _).alloc (by simp; omega) _)) (by simp; omega)).mono ?_; rintro e w3 ⟨rfl, hb3⟩)
      go_ret
      exact ⟨ret_bool HE2.out.symm, (((Below.refl _ _).alloc (Nat.le_refl _) _).alloc (by simp) _).trans (hb3.mono (by simp; omega))⟩
    · have hq1 : (o == o') = true := by simpa using h1
      have hq2 : (n == n') = false := by simpa using h2
      have HE2 : Hid (x.sameB y = false) := by show _ = _; rw [HE.out, decide_eq_false h2, Bool.false_and, Bool.and_false]
      clear h1 h2 HE
      go_enter Try.func42, Try.ntmps42
      go_wp2
      go_ret
      exact ⟨ret_bool HE2.out.symm, (((Below.refl _ _).alloc (Nat.le_refl _) _).alloc (by simp) _)⟩
  · have hq1 : (o == o') = false := by simpa using h1
    have HE2 : Hid (x.sameB y = false) := by show _ = _; rw [HE.out, decide_eq_false h1, Bool.false_and]
    clear h1 HE
    go_enter Try.func42, Try.ntmps42
    go_wp2
    go_ret
    exact ⟨ret_bool HE2.out.symm, (((Below.refl _ _).alloc (Nat.le_refl _) _).alloc (by simp) _)⟩

theorem same_all (h : Nat) : SameC h := by
  induction h using Nat.strongRecOn with
  | ind h ih => exact same_step h (fun x y hx v u B w hv hu hB => ih x.ht hx x y v u B w (Nat.le_refl _) hv hu hB)
/-- expr.Same. -/
theorem Same_c (x y : Ex) (v u : Value) (B : Nat) (w : World) (hv : ExAt w B v x) (hu : ExAt w B u y) (hB : B ≤ w.heap.size) :
    Calls Try.prog 42 #[v, u] w fun e w' => e = .returned (.bool (x.sameB y)) ∧ Below w.heap.size w w' := same_all x.ht x y v u B w (Nat.le_refl _) hv hu hB

end Go.Proofs.Ytfieoehchghiiaa

namespace Go.Proofs.Ytfieoehchghiiaa
open Go.RowKit
set_option linter.unusedVariables false

def Ex.mayT (x : Ex) : Bool := mayB 16 x

set_option maxHeartbeats 400000 in
theorem May_c (x : Ex) (v : Value) (B : Nat) (w : World) (hv : ExAt w B v x) (hB : B ≤ w.heap.size) :
    Calls Try.prog 90 #[v] w fun e w' => e = .returned (.bool x.mayT) ∧ Below w.heap.size w w' := by
  obtain ⟨sv, rfl, hs⟩ := hv
  obtain ⟨a, cap, rfl, hcap, hmx⟩ := hs.slice
  have HV : Hid (ExAt w B _ x) := ⟨_, rfl, hs⟩
  clear hs
  go_enter Try.func90, Try.ntmps90
  go_wp2_with (go_at_call 111; refine (may_c 16 x _ B _ _ (HV.out.keep ((Below.refl _ _).alloc hB _)) (by omega) (by omega) (by simp; omega)).mono ?_; rintro e w3 ⟨rfl, hb3⟩)
  go_ret
  exact ⟨rfl, ((Below.refl _ _).alloc (Nat.le_refl _) _).trans (hb3.mono (by simp))⟩

mutual
/-- How many expressions one has, at most 2000. -/
def Ex.size : Ex → Nat
  | .mk _ _ l => min (Exs.size l 1) 2000
def Exs.size : List Ex → Nat → Nat
  | [], n => n
  | x :: l, n => Exs.size l (if n < 2000 then n + x.size else n)
end
theorem Ex.size_le (x : Ex) : x.size ≤ 2000 := by obtain ⟨o, n, l⟩ := x; simp only [Ex.size]; omega
theorem Ex.size_eq (x : Ex) : x.size = min (Exs.size x.args 1) 2000 := by obtain ⟨o, n, l⟩ := x; rfl

def SizeC (h : Nat) : Prop := ∀ (x : Ex) (v : Value) (B : Nat) (w : World), x.ht ≤ h → ExAt w B v x → B ≤ w.heap.size →
  Calls Try.prog 23 #[v] w fun e w' => e = .returned (.int .i64 x.size) ∧ Below w.heap.size w w'

set_option maxHeartbeats 1000000 in
theorem size_step (h : Nat) (IH : Hid (∀ x : Ex, x.ht < h → ∀ (v : Value) (B : Nat) (w : World), ExAt w B v x → B ≤ w.heap.size →
      Calls Try.prog 23 #[v] w fun e w' => e = .returned (.int .i64 x.size) ∧ Below w.heap.size w w')) : SizeC h := by
  intro x v B w hh hv hB
  have HLT : Hid (∀ a ∈ x.args, a.ht < h) := fun a ha => by have := Ex.ht_args x a ha; omega
  have HE := Lib.hid (Ex.size_eq x)
  obtain ⟨sv, rfl, hs⟩ := hv
  obtain ⟨a, cap, rfl, hcap, hmx⟩ := hs.slice
  have HS := Lib.hid hs
  have hlm : x.args.length ≤ 9223372036854775807 := by unfold maxLen at hmx; omega
  generalize x.op = o at *
  generalize x.n = n at *
  generalize x.args = l at *
  clear hs hh
  go_enter Try.func23, Try.ntmps23
  go_wp2
  have hW := (Below.refl w.heap.size w).alloc (Nat.le_refl _) (.cells #[.int .u8 o, .int .i64 n, .slice a l.length cap] 35)
  generalize World.alloc w _ = W at *
  go_loopw [3, 9] (fun s q wr => ∃ j m : Nat, q = .int .i64 j ∧ s = .int .i64 m ∧ j ≤ l.length ∧ m ≤ 4000 ∧ Below w.heap.size w wr ∧ Exs.size (l.drop j) m = Exs.size l 1) (fun _ q _ => l.length - (intOf q).toNat)
  case atStart => exact ⟨0, 1, rfl, rfl, Nat.zero_le _, by omega, hW, rfl⟩
  case round =>
    obtain ⟨j, m, rfl, rfl, hj, hm, hBr, hr⟩ := hrel
    by_cases hlt : j < l.length
    · obtain ⟨b, off, cp, sv, e1, hb, c0, c1, c2, hsub⟩ := ((HS.out.mono hB).keep hBr).at_ j hlt
      simp only [Value.slice.injEq, true_and] at e1
      obtain ⟨rfl, rfl⟩ := e1
      obtain ⟨a2, cap2, rfl, _, _⟩ := hsub.slice
      rw [List.drop_eq_getElem_cons hlt] at hr
      simp only [Exs.size] at hr
      have hht := HLT.out _ (List.getElem_mem hlt)
      have hx : ∀ X, Below wr.heap.size wr X → ExAt X X.heap.size (.agg #[.int .u8 (l[j]'hlt).op, .int .i64 (l[j]'hlt).n, .slice a2 (l[j]'hlt).args.length cap2]) (l[j]'hlt) := fun X hX => ⟨_, rfl, (hsub.keep (hX.mono hBr.size)).mono (Nat.le_trans hBr.size hX.size)⟩
      have hsz := Ex.size_le (l[j]'hlt)
      generalize l[j] = x at *
      have HX := Lib.hid hx
      have HR := Lib.hid hr
      clear hr hx hsub
      by_cases hm2 : m < 2000
      · have hm3 : (m : Int) < 2000 := by omega
        go_wp2_with (go_at_call 23; refine (IH.out x hht _ _ _ (HX.out _ ((Below.refl _ _).alloc (Nat.le_refl _) _)) (Nat.le_refl _)).mono ?_; rintro e w3 ⟨rfl, hb3⟩)
        go_roundw
        case rel => exact ⟨j + 1, m + x.size, by go_num, by go_num, by omega, by omega, (hBr.alloc hBr.size _).trans (hb3.mono (by have := hBr.size; simp; omega)), by rw [← HR.out, if_pos hm2]⟩
        case measure => simp [intOf]; omega
      · have hm3 : ¬ (m : Int) < 2000 := by omega
        go_wp2
        go_roundw
        case rel => exact ⟨j + 1, m, by go_num, rfl, by omega, by omega, hBr.alloc hBr.size _, by rw [← HR.out, if_neg hm2]⟩
        case measure => simp [intOf]; omega
    · rw [List.drop_of_length_le (by omega)] at hr
      simp only [Exs.size] at hr
      have HR := Lib.hid hr
      clear hr
      go_wp2
      all_goals
        go_ret
        exact ⟨ret_int (by rw [HE.out, ← HR.out]; omega), hBr⟩

theorem size_all (h : Nat) : SizeC h := by
  induction h using Nat.strongRecOn with
  | ind h ih => exact size_step h (fun x hx v B w hv hB => ih x.ht hx x v B w (Nat.le_refl _) hv hB)
theorem Size_c (x : Ex) (v : Value) (B : Nat) (w : World) (hv : ExAt w B v x) (hB : B ≤ w.heap.size) :
    Calls Try.prog 23 #[v] w fun e w' => e = .returned (.int .i64 x.size) ∧ Below w.heap.size w w' := size_all x.ht x v B w (Nat.le_refl _) hv hB

end Go.Proofs.Ytfieoehchghiiaa
