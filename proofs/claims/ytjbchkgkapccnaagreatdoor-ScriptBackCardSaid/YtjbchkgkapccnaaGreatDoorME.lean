/-
  Walks: expr.many, expr.may, expr.May.
  Walks: expr.Same (by slices.EqualFunc), expr.May.
  Walks: expr.May, law08.Size.
  Jobs: plain data, and how they lie in a world.
  Walks of the reference's expressions: Same.
  Tell: strings.Builder within a tell.text.
  Walks: job.parts.
  Walks: slices.Index, Contains, IndexFunc, ContainsFunc at numbers and strings; job.twice; job.may$1.
  Walks: job.readers, job.Find.
  Jobs out of a reading.
  Walks: slices.Equal at numbers, ref12.ints, job.Same, ref12.Same, job.Stateful.
-/
import Derived.Test.YtjbchkgkapccnaaGreatDoorChecked
import Derived.Test.YtjbchkgkapccnaaGreatDoorMA
import Derived.Lib.Builder
import Derived.Lib.UnsafeStr
import Derived.Lib.FrozenHead
import Derived.Lib.FrozenHead2
import Derived.Lib.OthersKept
import Derived.Laws.EntriesVeiled

namespace Go.Proofs.YtjbchkgkapccnaaGreatDoor
open Go.RowKit
set_option linter.unusedVariables false

def manyN (op : Int) : Int := if op = 0 ∨ 18 < op then -1 else if op ≤ 4 then 0 else if op ≤ 6 then 1 else if op = 18 then 3 else 2

set_option maxHeartbeats 400000 in
theorem many_c (op : Int) (w : World) :
    Calls Tryz.prog 135 #[.int .u8 op] w fun e w' => e = .returned (.int .i64 (manyN op)) ∧ w = w' := by
  go_enter Tryz.func135, Tryz.ntmps135
  go_wp2
  all_goals
    go_ret
    exact ⟨ret_int (by unfold manyN; simp_all; try omega), rfl⟩

def shapeB (x : Ex) : Bool := decide (manyN x.op = x.args.length ∧ 0 ≤ x.n ∧ (x.n = 0 ∨ x.op = 1))
/-- Whether an expression may be, but for its depth: k levels are left. -/
def mayB : Nat → Ex → Bool
  | 0, _ => false
  | k + 1, x => shapeB x && x.args.all (mayB k)

theorem quiet_sym {P : Program} {f : FuncId} {args : Array Value} {w : World} {v : Value} (h : Calls P f args w fun e w' => e = .returned v ∧ w = w') : Calls P f args w fun e w' => e = .returned v ∧ w' = w :=
  h.mono fun _ _ ⟨he, hw⟩ => ⟨he, hw.symm⟩

set_option maxHeartbeats 1000000 in
theorem may_false (k : Nat) (x : Ex) (v : Value) (B : Nat) (w : World) (hv : ExAt w B v x) (h : shapeB x = false ∨ k = 0) (i : Int) (hi : i = (k : Int)) :
    Calls Tryz.prog 94 #[v, .int .i64 i] w fun e w' => e = .returned (.bool false) ∧ Below w.heap.size w w' := by
  obtain ⟨sv, rfl, hs⟩ := hv
  obtain ⟨a, cap, rfl, hcap, hm⟩ := hs.slice
  obtain ⟨op, n, l⟩ := x
  simp only [Ex.op, Ex.n, Ex.args] at *
  have hc : (manyN op != (l.length : Int)) = true ∨ (manyN op != (l.length : Int)) = false ∧ (decide (n < 0) = true ∨ decide (n < 0) = false ∧ (decide (0 < n) = true ∧ (op != 1) = true ∨
      (decide (0 < n) = true ∧ (op != 1) = false ∨ decide (0 < n) = false) ∧ (i == 0) = true)) := by
    have h' : ¬ (manyN op = l.length ∧ 0 ≤ n ∧ (n = 0 ∨ op = 1)) ∨ k = 0 := h.imp (fun h => of_decide_eq_false h) id
    simp only [bne_iff_ne, decide_eq_true_eq, bne_eq_false_iff_eq, decide_eq_false_iff_not, beq_iff_eq]
    omega
  clear h hs hi
  rcases hc with h1 | ⟨h1, h2 | ⟨h2, ⟨h3, h4⟩ | ⟨⟨h3, h4⟩ | h3, h5⟩⟩⟩
  all_goals
    go_enter Tryz.func94, Tryz.ntmps94
    go_wp2
    go_quiet ((go_at_call 135; exact Calls.quiet_of_same (quiet_sym (many_c _ _))))
    go_wp2
    go_ret
    exact ⟨rfl, below_drewN ((Below.refl _ _).alloc (Nat.le_refl _) _) _⟩

set_option maxHeartbeats 1000000 in
theorem may_c (k : Nat) : ∀ (x : Ex) (v : Value) (B : Nat) (w : World) (i : Int), ExAt w B v x → i = (k : Int) → k ≤ 1000 → B ≤ w.heap.size →
    Calls Tryz.prog 94 #[v, .int .i64 i] w fun e w' => e = .returned (.bool (mayB k x)) ∧ Below w.heap.size w w' := by
  induction k with
  | zero => exact fun x v B w i hv hi _ _ => may_false 0 x v B w hv (.inr rfl) i hi
  | succ k ihk =>
    intro x v B w i hv hi hk hB
    cases hsh : shapeB x
    · have hf := may_false (k + 1) x v B w hv (.inl hsh) i hi
      exact hf.mono fun e w' ⟨he, hw⟩ => ⟨by rw [he]; simp only [mayB]; rw [hsh]; rfl, hw⟩
    · have hm : Hid (mayB (k + 1) x = x.args.all (mayB k)) := by simp only [Hid, mayB]; rw [hsh, Bool.true_and]
      have hsh' : manyN x.op = x.args.length ∧ 0 ≤ x.n ∧ (x.n = 0 ∨ x.op = 1) := of_decide_eq_true hsh
      obtain ⟨sv, rfl, hs⟩ := hv
      obtain ⟨a, cap, rfl, hcap, hmx⟩ := hs.slice
      obtain ⟨op, n, l⟩ := x
      simp only [Ex.op, Ex.n, Ex.args] at *
      have h1 : (manyN op != (l.length : Int)) = false := by simpa using hsh'.1
      have h2 : decide (n < 0) = false := by simp; omega
      have hl3 : l.length ≤ 3 := by
        have := hsh'.1
        unfold manyN at this
        repeat' split at this
        all_goals omega
      have h5 : (i == 0) = false := by simp; omega
      have h6 := IntWalk.i64_in (i - 1)
      have h7 : 0 ≤ i ∧ i ≤ 1000 := by omega
      obtain ⟨h71, h72⟩ := h7
      have hcase : (decide (0 < n) = true ∧ (op != 1) = false) ∨ decide (0 < n) = false := by
        by_cases h0 : 0 < n
        · have : op = 1 := by omega
          subst this; exact .inl ⟨by simpa using h0, rfl⟩
        · exact .inr (by simpa using h0)
      have HS := Lib.hid hs
      have IH := Lib.hid ihk
      clear ihk
      have HI := Lib.hid hi
      clear hsh' hsh hs hi
      rcases hcase with ⟨h3, h4⟩ | h3
      all_goals
        go_enter Tryz.func94, Tryz.ntmps94
        go_wp2
        go_quiet ((go_at_call 135; exact Calls.quiet_of_same (quiet_sym (many_c _ _))))
        go_wp2_with fail
        have hW := below_drewN ((Below.refl w.heap.size w).alloc (Nat.le_refl _) (.cells #[.int .u8 op, .int .i64 n, .slice a l.length cap] 47)) nq
        generalize World.drewN (World.alloc w _) nq = W at *
        go_loopw [36] (fun q wr => ∃ j : Nat, q = .int .i64 j ∧ j ≤ l.length ∧ Below w.heap.size w wr ∧ (l.drop j).all (mayB k) = l.all (mayB k)) (fun q _ => l.length - (intOf q).toNat)
        case atStart => exact ⟨0, rfl, Nat.zero_le _, hW, rfl⟩
        case round =>
          obtain ⟨j, rfl, hj, hBr, hr⟩ := hrel
          by_cases hlt : j < l.length
          · obtain ⟨b, off, cap', sv', e', hb', c0, c1, c2, hsub⟩ := ((HS.out.mono hB).keep hBr).at_ j hlt
            simp only [Value.slice.injEq, true_and] at e'
            obtain ⟨rfl, rfl⟩ := e'
            obtain ⟨a2, cap2, rfl, _, _⟩ := hsub.slice
            rw [List.drop_eq_getElem_cons hlt, List.all_cons] at hr
            have hx : ∀ X, Below wr.heap.size wr X → ExAt X X.heap.size (.agg #[.int .u8 (l[j]'hlt).op, .int .i64 (l[j]'hlt).n, .slice a2 (l[j]'hlt).args.length cap2]) (l[j]'hlt) := fun X hX => ⟨_, rfl, (hsub.keep (hX.mono hBr.size)).mono (Nat.le_trans hBr.size hX.size)⟩
            generalize l[j] = y at *
            have HX := Lib.hid hx
            have HR := Lib.hid hr
            clear hr hx hsub
            cases hy : mayB k y
            all_goals
              have HY := Lib.hid hy
              clear hy
              go_wp2_with (go_at_call 94; refine (IH.out y _ _ _ _ (HX.out _ ((Below.refl _ _).alloc (Nat.le_refl _) _)) (by have := HI.out; omega) (by omega) (Nat.le_refl _)).mono ?_; rintro e w3 ⟨rfl, hb3⟩; rw [HY.out])
            · go_ret
              exact ⟨ret_bool (by rw [hm.out, ← HR.out, HY.out]; rfl), (hBr.alloc hBr.size _).trans (hb3.mono (by have := hBr.size; simp; omega))⟩
            · go_roundw
              case rel => exact ⟨j + 1, by go_num, by omega, (hBr.alloc hBr.size _).trans (hb3.mono (by have := hBr.size; simp; omega)), by rw [← HR.out, HY.out, Bool.true_and]⟩
              case measure => simp [intOf]; omega
          · rw [List.drop_of_length_le (by omega)] at hr
            have HR := Lib.hid hr
            clear hr
            go_wp2
            go_ret
            exact ⟨ret_bool (by rw [hm.out, ← HR.out]; rfl), hBr⟩

end Go.Proofs.YtjbchkgkapccnaaGreatDoor

namespace Go.Proofs.YtjbchkgkapccnaaGreatDoor
open Go.RowKit
set_option linter.unusedVariables false

mutual
def Ex.sameB : Ex → Ex → Bool
  | .mk o n l, .mk o' n' l' => decide (o = o') && (decide (n = n') && Exs.sameB l l')
def Exs.sameB : List Ex → List Ex → Bool
  | [], [] => true
  | x :: l, y :: m => x.sameB y && Exs.sameB l m
  | _, _ => false
end

theorem Exs.sameB_len : ∀ (l m : List Ex), l.length ≠ m.length → Exs.sameB l m = false
  | [], [], h => absurd rfl h
  | [], _ :: _, _ => rfl
  | _ :: _, [], _ => rfl
  | x :: l, y :: m, h => by simp only [Exs.sameB]; rw [Exs.sameB_len l m (by simpa using h), Bool.and_false]
theorem Ex.sameB_eq (x y : Ex) : x.sameB y = (decide (x.op = y.op) && (decide (x.n = y.n) && Exs.sameB x.args y.args)) := by
  obtain ⟨o, n, l⟩ := x; obtain ⟨o', n', l'⟩ := y; rfl

/-- The contract of expr.Same at expressions that are no higher than h. -/
def SameC (h : Nat) : Prop := ∀ (x y : Ex) (v u : Value) (B : Nat) (w : World), x.ht ≤ h → ExAt w B v x → ExAt w B u y → B ≤ w.heap.size →
  Calls Tryz.prog 33 #[v, u] w fun e w' => e = .returned (.bool (x.sameB y)) ∧ Below w.heap.size w w'

set_option maxHeartbeats 1000000 in
theorem eqFunc_c (h : Nat) (IH : Hid (SameC h)) (l m : List Ex) (hlh : ∀ x ∈ l, x.ht ≤ h) (v u : Value) (B : Nat) (w : World) (hv : ArgsAt w B l v) (hu : ArgsAt w B m u) (hB : B ≤ w.heap.size) :
    Calls Tryz.prog 61 #[v, u, .func (.func 33) #[] #[]] w fun e w' => e = .returned (.bool (Exs.sameB l m)) ∧ Below w.heap.size w w' := by
  obtain ⟨a, cap, rfl, hcap, hmx⟩ := hv.slice
  obtain ⟨a', cap', rfl, hcap', hmx'⟩ := hu.slice
  by_cases hlen : l.length = m.length
  · obtain ⟨n, hn⟩ : ∃ n, l.length = n := ⟨_, rfl⟩
    have hn' : m.length = n := by omega
    have HV := Lib.hid hv
    have HU := Lib.hid hu
    have HN := Lib.hid hn
    have HN' := Lib.hid hn'
    have HLH := Lib.hid hlh
    have hnm : n ≤ 9223372036854775807 := by unfold maxLen at hmx; omega
    rw [hn, hn']
    clear hv hu hlh hn hn' hlen
    go_enter Tryz.func61, Tryz.ntmps61
    go_wp2
    go_loopw [17] (fun q wr => ∃ j : Nat, q = .int .i64 j ∧ j ≤ n ∧ Below w.heap.size w wr ∧ Exs.sameB (l.drop j) (m.drop j) = Exs.sameB l m) (fun q _ => n - (intOf q).toNat)
    case atStart => exact ⟨0, rfl, Nat.zero_le _, Below.refl _ _, rfl⟩
    case round =>
      obtain ⟨j, rfl, hj, hBr, hr⟩ := hrel
      by_cases hlt : j < n
      · have hj1 : j < l.length := by have := HN.out; omega
        have hj2 : j < m.length := by have := HN'.out; omega
        obtain ⟨b, off, cp, sv, e1, hb, c0, c1, c2, hsub⟩ := ((HV.out.mono hB).keep hBr).at_ j hj1
        obtain ⟨b', off', cp', sv', e2, hb', d0, d1, d2, hsub'⟩ := ((HU.out.mono hB).keep hBr).at_ j hj2
        rw [HN.out] at e1
        rw [HN'.out] at e2
        simp only [Value.slice.injEq, true_and] at e1 e2
        obtain ⟨rfl, rfl⟩ := e1
        obtain ⟨rfl, rfl⟩ := e2
        obtain ⟨a2, cap2, rfl, _, _⟩ := hsub.slice
        obtain ⟨a3, cap3, rfl, _, _⟩ := hsub'.slice
        rw [List.drop_eq_getElem_cons hj1, List.drop_eq_getElem_cons hj2] at hr
        simp only [Exs.sameB] at hr
        have hbw := Nat.lt_of_lt_of_le hb hBr.size
        have hbw' := Nat.lt_of_lt_of_le hb' hBr.size
        have hht := HLH.out _ (List.getElem_mem hj1)
        have hx : ∀ X, Below wr.heap.size wr X → ExAt X X.heap.size (.agg #[.int .u8 (l[j]'hj1).op, .int .i64 (l[j]'hj1).n, .slice a2 (l[j]'hj1).args.length cap2]) (l[j]'hj1) := fun X hX => ⟨_, rfl, (hsub.keep (hX.mono hBr.size)).mono (Nat.le_trans hBr.size hX.size)⟩
        have hy : ∀ X, Below wr.heap.size wr X → ExAt X X.heap.size (.agg #[.int .u8 (m[j]'hj2).op, .int .i64 (m[j]'hj2).n, .slice a3 (m[j]'hj2).args.length cap3]) (m[j]'hj2) := fun X hX => ⟨_, rfl, (hsub'.keep (hX.mono hBr.size)).mono (Nat.le_trans hBr.size hX.size)⟩
        generalize l[j] = x at *
        generalize m[j] = y at *
        have HX := Lib.hid hx
        have HY := Lib.hid hy
        have HR := Lib.hid hr
        clear hr hx hy hsub hsub'
        cases hs : x.sameB y
        all_goals
          have HS := Lib.hid hs
          clear hs
          go_wp2_with (go_at_call 33; refine (IH.out x y _ _ _ _ hht (HX.out _ (((Below.refl _ _).alloc (Nat.le_refl _) _).alloc (by simp) _)) (HY.out _ (((Below.refl _ _).alloc (Nat.le_refl _) _).alloc (by simp) _)) (Nat.le_refl _)).mono ?_; rintro e w3 ⟨rfl, hb3⟩; rw [HS.out])
        · go_ret
          exact ⟨ret_bool (by rw [← HR.out, HS.out]; rfl), ((hBr.alloc hBr.size _).alloc (by have := hBr.size; simp; omega) _).trans (hb3.mono (by have := hBr.size; simp; omega))⟩
        · go_roundw
          case rel => exact ⟨j + 1, by go_num, by omega, ((hBr.alloc hBr.size _).alloc (by have := hBr.size; simp; omega) _).trans (hb3.mono (by have := hBr.size; simp; omega)), by rw [← HR.out, HS.out, Bool.true_and]⟩
          case measure => simp [intOf]; omega
      · rw [List.drop_of_length_le (by have := HN.out; omega), List.drop_of_length_le (by have := HN'.out; omega)] at hr
        have HR := Lib.hid hr
        clear hr
        go_wp2
        go_ret
        exact ⟨ret_bool (by rw [← HR.out]; rfl), hBr⟩
  · have hne : ((l.length : Int) != (m.length : Int)) = true := by rw [bne_iff_ne]; omega
    have HF := Lib.hid (Exs.sameB_len l m hlen)
    clear hlen hv hu
    go_enter Tryz.func61, Tryz.ntmps61
    go_wp2
    go_ret
    exact ⟨ret_bool HF.out.symm, Below.refl _ _⟩

set_option maxHeartbeats 1000000 in
theorem same_step (h : Nat) (IH : Hid (∀ x y : Ex, x.ht < h → ∀ (v u : Value) (B : Nat) (w : World), ExAt w B v x → ExAt w B u y → B ≤ w.heap.size →
      Calls Tryz.prog 33 #[v, u] w fun e w' => e = .returned (.bool (x.sameB y)) ∧ Below w.heap.size w w')) : SameC h := by
  intro x y v u B w hh hv hu hB
  have IH2 : Hid (∀ k, k + 1 = h → SameC k) := fun k hk x y v u B w hx => IH.out x y (by omega) v u B w
  have hargs : ∀ a ∈ x.args, a.ht ≤ h - 1 := fun a ha => by have := Ex.ht_args x a ha; omega
  have hpos : 1 ≤ h := by
    obtain ⟨o, n, l⟩ := x
    simp only [Ex.ht] at hh
    omega
  have HE := Lib.hid (Ex.sameB_eq x y)
  obtain ⟨sv, rfl, hs⟩ := hv
  obtain ⟨su, rfl, ht⟩ := hu
  obtain ⟨a, cap, rfl, hcap, hmx⟩ := hs.slice
  obtain ⟨a', cap', rfl, hcap', hmx'⟩ := ht.slice
  have HS := Lib.hid hs
  have HT := Lib.hid ht
  have HA := Lib.hid hargs
  generalize x.op = o at *
  generalize x.n = n at *
  generalize y.op = o' at *
  generalize y.n = n' at *
  clear hs ht hargs hh IH
  by_cases h1 : o = o'
  · by_cases h2 : n = n'
    · have hq1 : (o == o') = true := by simpa using h1
      have hq2 : (n == n') = true := by simpa using h2
      have HE2 : Hid (x.sameB y = Exs.sameB x.args y.args) := by show _ = _; rw [HE.out, decide_eq_true h1, decide_eq_true h2]; rfl
      clear h1 h2 HE
      go_enter Tryz.func33, Tryz.ntmps33
      go_wp2_with (go_at_call 61; refine (eqFunc_c (h - 1) (IH2.out (h - 1) (by omega)) x.args y.args HA.out _ _ B _ (HS.out.keep (((Below.refl _ _).alloc hB _).alloc (by simp; omega) _)) (HT.out.keep (((Below.refl _ _).alloc hB _).alloc (by simp; omega) _)) (by simp; omega)).mono ?_; rintro e w3 ⟨rfl, hb3⟩)
      go_ret
      exact ⟨ret_bool HE2.out.symm, (((Below.refl _ _).alloc (Nat.le_refl _) _).alloc (by simp) _).trans (hb3.mono (by simp; omega))⟩
    · have hq1 : (o == o') = true := by simpa using h1
      have hq2 : (n == n') = false := by simpa using h2
      have HE2 : Hid (x.sameB y = false) := by show _ = _; rw [HE.out, decide_eq_false h2, Bool.false_and, Bool.and_false]
      clear h1 h2 HE
      go_enter Tryz.func33, Tryz.ntmps33
      go_wp2
      go_ret
      exact ⟨ret_bool HE2.out.symm, (((Below.refl _ _).alloc (Nat.le_refl _) _).alloc (by simp) _)⟩
  · have hq1 : (o == o') = false := by simpa using h1
    have HE2 : Hid (x.sameB y = false) := by show _ = _; rw [HE.out, decide_eq_false h1, Bool.false_and]
    clear h1 HE
    go_enter Tryz.func33, Tryz.ntmps33
    go_wp2
    go_ret
    exact ⟨ret_bool HE2.out.symm, (((Below.refl _ _).alloc (Nat.le_refl _) _).alloc (by simp) _)⟩

theorem same_all (h : Nat) : SameC h := by
  induction h using Nat.strongRecOn with
  | ind h ih => exact same_step h (fun x y hx v u B w hv hu hB => ih x.ht hx x y v u B w (Nat.le_refl _) hv hu hB)
/-- expr.Same. -/
theorem Same_c (x y : Ex) (v u : Value) (B : Nat) (w : World) (hv : ExAt w B v x) (hu : ExAt w B u y) (hB : B ≤ w.heap.size) :
    Calls Tryz.prog 33 #[v, u] w fun e w' => e = .returned (.bool (x.sameB y)) ∧ Below w.heap.size w w' := same_all x.ht x y v u B w (Nat.le_refl _) hv hu hB

end Go.Proofs.YtjbchkgkapccnaaGreatDoor

namespace Go.Proofs.YtjbchkgkapccnaaGreatDoor
open Go.RowKit
set_option linter.unusedVariables false

def Ex.mayT (x : Ex) : Bool := mayB 16 x

set_option maxHeartbeats 400000 in
theorem May_c (x : Ex) (v : Value) (B : Nat) (w : World) (hv : ExAt w B v x) (hB : B ≤ w.heap.size) :
    Calls Tryz.prog 54 #[v] w fun e w' => e = .returned (.bool x.mayT) ∧ Below w.heap.size w w' := by
  obtain ⟨sv, rfl, hs⟩ := hv
  obtain ⟨a, cap, rfl, hcap, hmx⟩ := hs.slice
  have HV : Hid (ExAt w B _ x) := ⟨_, rfl, hs⟩
  clear hs
  go_enter Tryz.func54, Tryz.ntmps54
  go_wp2_with (go_at_call 94; refine (may_c 16 x _ B _ _ (HV.out.keep ((Below.refl _ _).alloc hB _)) (by omega) (by omega) (by simp; omega)).mono ?_; rintro e w3 ⟨rfl, hb3⟩)
  go_ret
  exact ⟨rfl, ((Below.refl _ _).alloc (Nat.le_refl _) _).trans (hb3.mono (by simp))⟩

mutual
/-- How many expressions one has, at most 2000. -/
def Ex.size : Ex → Nat
  | .mk _ _ l => min (Exs.size l 1) 2000
def Exs.size : List Ex → Nat → Nat
  | [], n => n
  | x :: l, n => Exs.size l (if n < 2000 then n + x.size else n)
end
theorem Ex.size_le (x : Ex) : x.size ≤ 2000 := by obtain ⟨o, n, l⟩ := x; simp only [Ex.size]; omega
theorem Ex.size_eq (x : Ex) : x.size = min (Exs.size x.args 1) 2000 := by obtain ⟨o, n, l⟩ := x; rfl

def SizeC (h : Nat) : Prop := ∀ (x : Ex) (v : Value) (B : Nat) (w : World), x.ht ≤ h → ExAt w B v x → B ≤ w.heap.size →
  Calls Tryz.prog 19 #[v] w fun e w' => e = .returned (.int .i64 x.size) ∧ Below w.heap.size w w'

set_option maxHeartbeats 1000000 in
theorem size_step (h : Nat) (IH : Hid (∀ x : Ex, x.ht < h → ∀ (v : Value) (B : Nat) (w : World), ExAt w B v x → B ≤ w.heap.size →
      Calls Tryz.prog 19 #[v] w fun e w' => e = .returned (.int .i64 x.size) ∧ Below w.heap.size w w')) : SizeC h := by
  intro x v B w hh hv hB
  have HLT : Hid (∀ a ∈ x.args, a.ht < h) := fun a ha => by have := Ex.ht_args x a ha; omega
  have HE := Lib.hid (Ex.size_eq x)
  obtain ⟨sv, rfl, hs⟩ := hv
  obtain ⟨a, cap, rfl, hcap, hmx⟩ := hs.slice
  have HS := Lib.hid hs
  have hlm : x.args.length ≤ 9223372036854775807 := by unfold maxLen at hmx; omega
  generalize x.op = o at *
  generalize x.n = n at *
  generalize x.args = l at *
  clear hs hh
  go_enter Tryz.func19, Tryz.ntmps19
  go_wp2
  have hW := (Below.refl w.heap.size w).alloc (Nat.le_refl _) (.cells #[.int .u8 o, .int .i64 n, .slice a l.length cap] 47)
  generalize World.alloc w _ = W at *
  go_loopw [3, 9] (fun s q wr => ∃ j m : Nat, q = .int .i64 j ∧ s = .int .i64 m ∧ j ≤ l.length ∧ m ≤ 4000 ∧ Below w.heap.size w wr ∧ Exs.size (l.drop j) m = Exs.size l 1) (fun _ q _ => l.length - (intOf q).toNat)
  case atStart => exact ⟨0, 1, rfl, rfl, Nat.zero_le _, by omega, hW, rfl⟩
  case round =>
    obtain ⟨j, m, rfl, rfl, hj, hm, hBr, hr⟩ := hrel
    by_cases hlt : j < l.length
    · obtain ⟨b, off, cp, sv, e1, hb, c0, c1, c2, hsub⟩ := ((HS.out.mono hB).keep hBr).at_ j hlt
      simp only [Value.slice.injEq, true_and] at e1
      obtain ⟨rfl, rfl⟩ := e1
      obtain ⟨a2, cap2, rfl, _, _⟩ := hsub.slice
      rw [List.drop_eq_getElem_cons hlt] at hr
      simp only [Exs.size] at hr
      have hht := HLT.out _ (List.getElem_mem hlt)
      have hx : ∀ X, Below wr.heap.size wr X → ExAt X X.heap.size (.agg #[.int .u8 (l[j]'hlt).op, .int .i64 (l[j]'hlt).n, .slice a2 (l[j]'hlt).args.length cap2]) (l[j]'hlt) := fun X hX => ⟨_, rfl, (hsub.keep (hX.mono hBr.size)).mono (Nat.le_trans hBr.size hX.size)⟩
      have hsz := Ex.size_le (l[j]'hlt)
      generalize l[j] = x at *
      have HX := Lib.hid hx
      have HR := Lib.hid hr
      clear hr hx hsub
      by_cases hm2 : m < 2000
      · have hm3 : (m : Int) < 2000 := by omega
        go_wp2_with (go_at_call 19; refine (IH.out x hht _ _ _ (HX.out _ ((Below.refl _ _).alloc (Nat.le_refl _) _)) (Nat.le_refl _)).mono ?_; rintro e w3 ⟨rfl, hb3⟩)
        go_roundw
        case rel => exact ⟨j + 1, m + x.size, by go_num, by go_num, by omega, by omega, (hBr.alloc hBr.size _).trans (hb3.mono (by have := hBr.size; simp; omega)), by rw [← HR.out, if_pos hm2]⟩
        case measure => simp [intOf]; omega
      · have hm3 : ¬ (m : Int) < 2000 := by omega
        go_wp2
        go_roundw
        case rel => exact ⟨j + 1, m, by go_num, rfl, by omega, by omega, hBr.alloc hBr.size _, by rw [← HR.out, if_neg hm2]⟩
        case measure => simp [intOf]; omega
    · rw [List.drop_of_length_le (by omega)] at hr
      simp only [Exs.size] at hr
      have HR := Lib.hid hr
      clear hr
      go_wp2
      all_goals
        go_ret
        exact ⟨ret_int (by rw [HE.out, ← HR.out]; omega), hBr⟩

theorem size_all (h : Nat) : SizeC h := by
  induction h using Nat.strongRecOn with
  | ind h ih => exact size_step h (fun x hx v B w hv hB => ih x.ht hx x v B w (Nat.le_refl _) hv hB)
theorem Size_c (x : Ex) (v : Value) (B : Nat) (w : World) (hv : ExAt w B v x) (hB : B ≤ w.heap.size) :
    Calls Tryz.prog 19 #[v] w fun e w' => e = .returned (.int .i64 x.size) ∧ Below w.heap.size w w' := size_all x.ht x v B w (Nat.le_refl _) hv hB

end Go.Proofs.YtjbchkgkapccnaaGreatDoor

namespace Go.Proofs.YtjbchkgkapccnaaGreatDoor
open Go.RowKit
set_option linter.unusedVariables false

/-- A node. -/
structure Nd where
  uid : ByteArray
  kind : Int
  ins : List Int
  x : Ex
  n : Int

/-- A job. -/
structure Jb where
  par : Int
  nodes : List Nd

/-- What a node's slice of places and its slice of arguments are. -/
def NdIn (w : World) (B : Nat) (iv sv : Value) (d : Nd) : Prop := Sl w B 1 iv d.ins.length (d.ins.map (Value.int .i64)) ∧ ArgsAt w B d.x.args sv
/-- A node by value. -/
def NdAt (w : World) (B : Nat) (v : Value) (d : Nd) : Prop :=
  ∃ iv sv, v = .agg #[.string d.uid, .int .u8 d.kind, iv, .int .u8 d.x.op, .int .i64 d.x.n, sv, .int .i64 d.n] ∧ NdIn w B iv sv d ∧ d.uid.size ≤ maxLen
/-- The nodes l lie where the slice says. -/
def NodesAt (w : World) (B : Nat) (l : List Nd) (v : Value) : Prop :=
  ∃ a cap, v = .slice a l.length cap ∧ l.length ≤ cap ∧ cap ≤ maxLen ∧ (l.length = 0 ∨ ∃ b off, a = some ⟨b, off, none⟩ ∧ b < B ∧ ∀ j (h : j < l.length), (l[j]'h).uid.size ≤ maxLen ∧ ∃ iv sv,
    w.cell? ⟨b, off + j * 7, none⟩ = some (.string (l[j]'h).uid) ∧ w.cell? ⟨b, off + j * 7 + 1, none⟩ = some (.int .u8 (l[j]'h).kind) ∧ w.cell? ⟨b, off + j * 7 + 2, none⟩ = some iv ∧
    w.cell? ⟨b, off + j * 7 + 3, none⟩ = some (.int .u8 (l[j]'h).x.op) ∧ w.cell? ⟨b, off + j * 7 + 4, none⟩ = some (.int .i64 (l[j]'h).x.n) ∧ w.cell? ⟨b, off + j * 7 + 5, none⟩ = some sv ∧
    w.cell? ⟨b, off + j * 7 + 6, none⟩ = some (.int .i64 (l[j]'h).n) ∧ NdIn w B iv sv (l[j]'h))
/-- A job by value. -/
def JbAt (w : World) (B : Nat) (v : Value) (j : Jb) : Prop := ∃ sv, v = .agg #[.int .i64 j.par, sv] ∧ NodesAt w B j.nodes sv

theorem NdIn.mono {w : World} {B C : Nat} {iv sv : Value} {d : Nd} (h : NdIn w B iv sv d) (hC : B ≤ C) : NdIn w C iv sv d := ⟨h.1.mono hC, h.2.mono hC⟩
theorem NdIn.keep {w w' : World} {B : Nat} {iv sv : Value} {d : Nd} (h : NdIn w B iv sv d) (hB : Below B w w') : NdIn w' B iv sv d := ⟨h.1.below hB, h.2.keep hB⟩
theorem NdAt.mono {w : World} {B C : Nat} {v : Value} {d : Nd} (h : NdAt w B v d) (hC : B ≤ C) : NdAt w C v d := let ⟨a, b, c, e, f⟩ := h; ⟨a, b, c, e.mono hC, f⟩
theorem NdAt.keep {w w' : World} {B : Nat} {v : Value} {d : Nd} (h : NdAt w B v d) (hB : Below B w w') : NdAt w' B v d := let ⟨a, b, c, e, f⟩ := h; ⟨a, b, c, e.keep hB, f⟩
namespace NodesAt
variable {w w' : World} {B : Nat} {l : List Nd} {v : Value}
theorem mono (h : NodesAt w B l v) {C : Nat} (hC : B ≤ C) : NodesAt w C l v := by
  obtain ⟨a, cap, rfl, h1, h2, h3⟩ := h
  refine ⟨a, cap, rfl, h1, h2, h3.imp id ?_⟩
  rintro ⟨b, off, rfl, hb, hc⟩
  refine ⟨b, off, rfl, by omega, fun j hj => ?_⟩
  obtain ⟨u, iv, sv, c0, c1, c2, c3, c4, c5, c6, hs⟩ := hc j hj
  exact ⟨u, iv, sv, c0, c1, c2, c3, c4, c5, c6, hs.mono hC⟩
theorem keep (h : NodesAt w B l v) (hB : Below B w w') : NodesAt w' B l v := by
  obtain ⟨a, cap, rfl, h1, h2, h3⟩ := h
  refine ⟨a, cap, rfl, h1, h2, h3.imp id ?_⟩
  rintro ⟨b, off, rfl, hb, hc⟩
  refine ⟨b, off, rfl, hb, fun j hj => ?_⟩
  obtain ⟨u, iv, sv, c0, c1, c2, c3, c4, c5, c6, hs⟩ := hc j hj
  have g := fun k => hB.cell (p := ⟨b, k, none⟩) hb
  exact ⟨u, iv, sv, (g _).trans c0, (g _).trans c1, (g _).trans c2, (g _).trans c3, (g _).trans c4, (g _).trans c5, (g _).trans c6, hs.keep hB⟩
theorem slice (h : NodesAt w B l v) : ∃ a cap, v = .slice a l.length cap ∧ l.length ≤ cap ∧ cap ≤ maxLen := by
  obtain ⟨a, cap, rfl, h1, h2, h3⟩ := h
  exact ⟨a, cap, rfl, h1, h2⟩
/-- An element. -/
theorem at_ (h : NodesAt w B l v) (j : Nat) (hj : j < l.length) : ∃ b off cap, v = .slice (some ⟨b, off, none⟩) l.length cap ∧ b < B ∧ (l[j]'hj).uid.size ≤ maxLen ∧ ∃ iv sv,
    w.cell? ⟨b, off + j * 7, none⟩ = some (.string (l[j]'hj).uid) ∧ w.cell? ⟨b, off + j * 7 + 1, none⟩ = some (.int .u8 (l[j]'hj).kind) ∧ w.cell? ⟨b, off + j * 7 + 2, none⟩ = some iv ∧
    w.cell? ⟨b, off + j * 7 + 3, none⟩ = some (.int .u8 (l[j]'hj).x.op) ∧ w.cell? ⟨b, off + j * 7 + 4, none⟩ = some (.int .i64 (l[j]'hj).x.n) ∧ w.cell? ⟨b, off + j * 7 + 5, none⟩ = some sv ∧
    w.cell? ⟨b, off + j * 7 + 6, none⟩ = some (.int .i64 (l[j]'hj).n) ∧ NdIn w B iv sv (l[j]'hj) := by
  obtain ⟨a, cap, rfl, h1, h2, h3⟩ := h
  rcases h3 with h3 | ⟨b, off, rfl, hb, hc⟩
  · omega
  · obtain ⟨u, iv, sv, c⟩ := hc j hj
    exact ⟨b, off, cap, rfl, hb, u, iv, sv, c⟩
end NodesAt
theorem JbAt.mono {w : World} {B C : Nat} {v : Value} {j : Jb} (h : JbAt w B v j) (hC : B ≤ C) : JbAt w C v j := let ⟨a, b, c⟩ := h; ⟨a, b, c.mono hC⟩
theorem JbAt.keep {w w' : World} {B : Nat} {v : Value} {j : Jb} (h : JbAt w B v j) (hB : Below B w w') : JbAt w' B v j := let ⟨a, b, c⟩ := h; ⟨a, b, c.keep hB⟩

/-- Numbers within their kinds. -/
def Nd.ok (d : Nd) : Prop := 0 ≤ d.kind ∧ d.kind ≤ 255 ∧ (∀ z ∈ d.ins, -9223372036854775808 ≤ z ∧ z ≤ 9223372036854775807) ∧ d.x.ok ∧ -9223372036854775808 ≤ d.n ∧ d.n ≤ 9223372036854775807
def Jb.ok (j : Jb) : Prop := -9223372036854775808 ≤ j.par ∧ j.par ≤ 9223372036854775807 ∧ ∀ d ∈ j.nodes, d.ok

end Go.Proofs.YtjbchkgkapccnaaGreatDoor

namespace Go.Proofs.YtjbchkgkapccnaaGreatDoor
open Go.RowKit
set_option linter.unusedVariables false

def RSameC (h : Nat) : Prop := ∀ (x y : Ex) (v u : Value) (B : Nat) (w : World), x.ht ≤ h → ExAt w B v x → ExAt w B u y → B ≤ w.heap.size →
  Calls Tryz.prog 98 #[v, u] w fun e w' => e = .returned (.bool (x.sameB y)) ∧ Below w.heap.size w w'

set_option maxHeartbeats 1000000 in
set_option maxRecDepth 100000 in
theorem rsame_step (h : Nat) (IH : Hid (∀ x y : Ex, x.ht < h → ∀ (v u : Value) (B : Nat) (w : World), ExAt w B v x → ExAt w B u y → B ≤ w.heap.size →
      Calls Tryz.prog 98 #[v, u] w fun e w' => e = .returned (.bool (x.sameB y)) ∧ Below w.heap.size w w')) : RSameC h := by
  intro x y v u B w hh hv hu hB
  have HLT : Hid (∀ a ∈ x.args, a.ht < h) := fun a ha => by have := Ex.ht_args x a ha; omega
  have HE := Lib.hid (Ex.sameB_eq x y)
  obtain ⟨sv, rfl, hs⟩ := hv
  obtain ⟨su, rfl, ht⟩ := hu
  obtain ⟨a, cap, rfl, hcap, hmx⟩ := hs.slice
  obtain ⟨a', cap', rfl, hcap', hmx'⟩ := ht.slice
  have HS := Lib.hid hs
  have HT := Lib.hid ht
  generalize x.op = o at *
  generalize x.n = n at *
  generalize y.op = o' at *
  generalize y.n = n' at *
  generalize x.args = l at *
  generalize y.args = m at *
  clear hs ht hh
  have hlm : l.length ≤ 9223372036854775807 := by unfold maxLen at hmx; omega
  by_cases h1 : o = o'
  · by_cases h2 : n = n'
    · by_cases h3 : l.length = m.length
      · have hq1 : (o != o') = false := by simpa using h1
        have hq2 : (n != n') = false := by simpa using h2
        have HE2 : Hid (x.sameB y = Exs.sameB l m) := by show _ = _; rw [HE.out, decide_eq_true h1, decide_eq_true h2]; rfl
        obtain ⟨k, hk⟩ : ∃ k, l.length = k := ⟨_, rfl⟩
        have hk' : m.length = k := by omega
        rw [hk] at hlm
        have HK := Lib.hid hk
        have HK' := Lib.hid hk'
        rw [hk, hk']
        clear h1 h2 HE hk hk' h3
        go_enter Tryz.func98, Tryz.ntmps98
        go_wp2
        have hW := ((Below.refl w.heap.size w).alloc (Nat.le_refl _) (.cells #[.int .u8 o, .int .i64 n, .slice a k cap] 47)).alloc (by simp) (.cells #[.int .u8 o', .int .i64 n', .slice a' k cap'] 47)
        have hb1 := (Blk.new w #[.int .u8 o, .int .i64 n, .slice a k cap] 47).alloc (.cells #[.int .u8 o', .int .i64 n', .slice a' k cap'] 47)
        have hb2 := Blk.new_at (w.alloc (.cells #[.int .u8 o, .int .i64 n, .slice a k cap] 47)) #[.int .u8 o', .int .i64 n', .slice a' k cap'] 47 (k := w.heap.size + 1) (by simp)
        have hsz : ((w.alloc (.cells #[.int .u8 o, .int .i64 n, .slice a k cap] 47)).alloc (.cells #[.int .u8 o', .int .i64 n', .slice a' k cap'] 47)).heap.size = w.heap.size + 2 := by simp
        generalize World.alloc (World.alloc w _) _ = W at *
        have HSZ := Lib.hid hsz
        have hsz1 : w.heap.size + 2 ≤ W.heap.size := by omega
        clear hsz
        go_loopw [5] (fun q wr => ∃ j : Nat, q = .int .i64 j ∧ j ≤ k ∧ Below W.heap.size W wr ∧ Exs.sameB (l.drop j) (m.drop j) = Exs.sameB l m) (fun q _ => k - (intOf q).toNat)
        case atStart => exact ⟨0, rfl, Nat.zero_le _, Below.refl _ _, rfl⟩
        case round =>
          obtain ⟨j, rfl, hj, hBr, hr⟩ := hrel
          have hbr1 := hb1.below hBr hb1.lt
          have hbr2 := hb2.below hBr hb2.lt
          have p2 := hbr1.cell 2
          have q2 := hbr2.cell 2
          by_cases hlt : j < k
          · have hj1 : j < l.length := by have := HK.out; omega
            have hj2 : j < m.length := by have := HK'.out; omega
            have hBw := hW.trans (hBr.mono (by omega))
            obtain ⟨b, off, cp, sv, e1, hb, c0, c1, c2, hsub⟩ := ((HS.out.mono hB).keep hBw).at_ j hj1
            obtain ⟨b', off', cp', sv', e2, hb', d0, d1, d2, hsub'⟩ := ((HT.out.mono hB).keep hBw).at_ j hj2
            rw [HK.out] at e1
            rw [HK'.out] at e2
            simp only [Value.slice.injEq, true_and] at e1 e2
            obtain ⟨rfl, rfl⟩ := e1
            obtain ⟨rfl, rfl⟩ := e2
            obtain ⟨a2, cap2, rfl, _, _⟩ := hsub.slice
            obtain ⟨a3, cap3, rfl, _, _⟩ := hsub'.slice
            rw [List.drop_eq_getElem_cons hj1, List.drop_eq_getElem_cons hj2] at hr
            simp only [Exs.sameB] at hr
            have hht := HLT.out _ (List.getElem_mem hj1)
            generalize l[j] = x' at *
            generalize m[j] = y' at *
            have HX : Hid (ExAt wr w.heap.size (.agg #[.int .u8 x'.op, .int .i64 x'.n, .slice a2 x'.args.length cap2]) x') := ⟨_, rfl, hsub⟩
            have HY : Hid (ExAt wr w.heap.size (.agg #[.int .u8 y'.op, .int .i64 y'.n, .slice a3 y'.args.length cap3]) y') := ⟨_, rfl, hsub'⟩
            have HR := Lib.hid hr
            clear hr hsub hsub'
            go_wp2
            go_still_tail 10, (by kernel_rfl)
            cases hs : x'.sameB y'
            all_goals
              have HSB := Lib.hid hs
              clear hs
              go_wp2_with (go_at_call 98; refine (IH.out x' y' hht _ _ w.heap.size _ (HX.out.keep (Below.refl _ wr).drew) (HY.out.keep (Below.refl _ wr).drew) (by have := hBr.size; first | omega | (simp; omega))).mono ?_; rintro e w3 ⟨rfl, hb3⟩; rw [HSB.out])
            · go_ret
              exact ⟨ret_bool (by rw [HE2.out, ← HR.out, HSB.out]; rfl), hBw.drew.trans (hb3.mono hBw.size)⟩
            · go_roundw
              case rel => exact ⟨j + 1, by go_num, by omega, hBr.drew.trans (hb3.mono hBr.size), by rw [← HR.out, HSB.out, Bool.true_and]⟩
              case measure => simp [intOf]; omega
          · rw [List.drop_of_length_le (by have := HK.out; omega), List.drop_of_length_le (by have := HK'.out; omega)] at hr
            have HR := Lib.hid hr
            clear hr
            go_wp2
            go_ret
            exact ⟨ret_bool (by rw [HE2.out, ← HR.out]; rfl), hW.trans (hBr.mono (by omega))⟩
      · have hq1 : (o != o') = false := by simpa using h1
        have hq2 : (n != n') = false := by simpa using h2
        have hq3 : ((l.length : Int) != (m.length : Int)) = true := by rw [bne_iff_ne]; omega
        have HE2 : Hid (x.sameB y = false) := by show _ = _; rw [HE.out, Exs.sameB_len l m h3, Bool.and_false, Bool.and_false]
        clear h1 h2 h3 HE
        go_enter Tryz.func98, Tryz.ntmps98
        go_wp2
        go_ret
        exact ⟨ret_bool HE2.out.symm, ((Below.refl _ _).alloc (Nat.le_refl _) _).alloc (by simp) _⟩
    · have hq1 : (o != o') = false := by simpa using h1
      have hq2 : (n != n') = true := by simpa using h2
      have HE2 : Hid (x.sameB y = false) := by show _ = _; rw [HE.out, decide_eq_false h2, Bool.false_and, Bool.and_false]
      clear h1 h2 HE
      go_enter Tryz.func98, Tryz.ntmps98
      go_wp2
      go_ret
      exact ⟨ret_bool HE2.out.symm, ((Below.refl _ _).alloc (Nat.le_refl _) _).alloc (by simp) _⟩
  · have hq1 : (o != o') = true := by simpa using h1
    have HE2 : Hid (x.sameB y = false) := by show _ = _; rw [HE.out, decide_eq_false h1, Bool.false_and]
    clear h1 HE
    go_enter Tryz.func98, Tryz.ntmps98
    go_wp2
    go_ret
    exact ⟨ret_bool HE2.out.symm, ((Below.refl _ _).alloc (Nat.le_refl _) _).alloc (by simp) _⟩

theorem rsame_all (h : Nat) : RSameC h := by
  induction h using Nat.strongRecOn with
  | ind h ih => exact rsame_step h (fun x y hx v u B w hv hu hB => ih x.ht hx x y v u B w (Nat.le_refl _) hv hu hB)
theorem rSame_c (x y : Ex) (v u : Value) (B : Nat) (w : World) (hv : ExAt w B v x) (hu : ExAt w B u y) (hB : B ≤ w.heap.size) :
    Calls Tryz.prog 98 #[v, u] w fun e w' => e = .returned (.bool (x.sameB y)) ∧ Below w.heap.size w w' := rsame_all x.ht x y v u B w (Nat.le_refl _) hv hu hB

end Go.Proofs.YtjbchkgkapccnaaGreatDoor

namespace Go.Proofs.YtjbchkgkapccnaaGreatDoor
open Go.RowKit
set_option linter.unusedVariables false

set_option maxHeartbeats 1000000 in
set_option maxRecDepth 100000 in
theorem ccUsed_c (b : Nat) (w : World) (h0 : w.cell? ⟨b, 0, none⟩ = some (.pointer (some ⟨b, 0, none⟩))) :
    Calls Tryz.prog 66 #[.pointer (some ⟨b, 0, none⟩)] w fun e w' => e = .returned (.tuple #[]) ∧ w' = w := by
  obtain ⟨j, hj, _⟩ := Option.map_eq_some_iff.1 (show (Tryz.prog.info? 70).map (·.size) = some 2 by kernel_rfl)
  go_enter Tryz.func66, Tryz.ntmps66
  go_wp2
  rw [Lib.run_neq_ptr_same w _ (by kernel_rfl : Tryz.prog.underlying 67 = some (.pointer 70)) hj]
  go_wp2
  go_end0
  exact ⟨rfl, rfl⟩

set_option maxHeartbeats 1000000 in
set_option maxRecDepth 100000 in
theorem ccFresh_c (b : Nat) (w : World) (h0 : w.cell? ⟨b, 0, none⟩ = some (.pointer none)) (hsh : w.shape? b = some (99, 2)) (hfz : w.frozen? ⟨b, 0, none⟩ = false) :
    Calls Tryz.prog 66 #[.pointer (some ⟨b, 0, none⟩)] w fun e w' => e = .returned (.tuple #[]) ∧ w' = w.setCell ⟨b, 0, none⟩ (.pointer (some ⟨b, 0, none⟩)) := by
  obtain ⟨j, hj, hjs⟩ := Option.map_eq_some_iff.1 (show (Tryz.prog.info? 70).map (·.size) = some 2 by kernel_rfl)
  have hp : Tryz.prog.underlying 67 = some (.pointer 70) := by kernel_rfl
  have hu : Tryz.prog.underlying 147 = some .unsafePointer := by kernel_rfl
  have hl : liesAt Tryz.prog Tryz.prog.depth 99 (2 / Tryz.prog.cellsOf 99) 0 70 1 = true := by kernel_rfl
  go_enter Tryz.func66, Tryz.ntmps66
  go_wp2
  rw [Lib.run_to_unsafe w ⟨b, 0, none⟩ hp hu hj (by rw [hjs]; decide) hsh (Nat.zero_lt_succ 1)]
  simp only [Result.andThen]
  rw [Oper.upon_value]
  go_wp2
  rw [run_callFunc_extern Tryz.func106 (by kernel_rfl) (by kernel_rfl) (by kernel_rfl) (e := Extern.AbiNoEscape.same) (by kernel_rfl)]
  rw [Lib.run_noEscape]
  simp only [Result.andThen]
  rw [Oper.upon_value]
  go_wp2
  rw [Lib.run_from_unsafe w ⟨b, 0, none⟩ hu hp hj hsh hl]
  simp only [Result.andThen]
  rw [Oper.upon_value]
  go_wp2
  go_end0
  exact ⟨rfl, rfl⟩

/-- The builder of a tell.text in block b: it holds s. -/
def TtAt (w : World) (B b : Nat) (s : ByteArray) : Prop := Lib.IsBuilderF 99 5 B b (Lib.byteCells s.data.toList) w

theorem cc_c (B b : Nat) (bs : List Value) (w : World) (h : Lib.IsBuilderF 99 5 B b bs w) :
    Calls Tryz.prog 66 #[.pointer (some ⟨b, 0, none⟩)] w fun e w' => e = .returned (.tuple #[]) ∧ (Lib.BuilderAtF 99 5 B b (.pointer (some ⟨b, 0, none⟩)) bs w' ∧ Below B w w' ∧ Lib.OthersKept 5 (some b) w w') := by
  rcases h with h | h
  · refine (ccFresh_c b w h.cell0 h.shape h.frozen0).mono ?_
    rintro e w' ⟨rfl, rfl⟩
    exact ⟨rfl, h.used _, (Below.refl B w).setCell (p := ⟨b, 0, none⟩) h.1 _, (Lib.OthersKept.refl _ _ w).setCell ⟨b, 0, none⟩ rfl _⟩
  · refine (ccUsed_c b w h.cell0).mono ?_
    rintro e w' ⟨rfl, rfl⟩
    exact ⟨rfl, h, Below.refl B _, Lib.OthersKept.refl _ _ _⟩

set_option maxHeartbeats 2000000 in
set_option maxRecDepth 100000 in
theorem write_c (B b : Nat) (bs : List Value) (s : ByteArray) (w : World) (h : Lib.IsBuilderF 99 5 B b bs w) (hlen : bs.length + s.size ≤ 140737488355328) (hBw : B ≤ w.heap.size) :
    Calls Tryz.prog 38 #[.pointer (some ⟨b, 0, none⟩), .string s] w fun e w' => (∃ v, e = .returned v) ∧ (Lib.BuilderAtF 99 5 B b (.pointer (some ⟨b, 0, none⟩)) (bs ++ Lib.strCells s) w' ∧ Below B w w' ∧ Lib.OthersKept 5 (some b) w w') := by
  obtain ⟨i0, hi, hz0, hz1, hz2⟩ := info_parts (show (Tryz.prog.info? 5).map (fun i => (i.zero, i.size, i.bytes)) = some (some (.int .u8 0), 1, 1) by kernel_rfl)
  have hts : Tryz.prog.underlying 68 = some (.slice 5) := by kernel_rfl
  have htg : Tryz.prog.underlying 9 = some .string := by kernel_rfl
  have hc := cc_c B b bs w h
  have HC := Lib.hid hc
  clear hc
  go_enter Tryz.func38, Tryz.ntmps38
  go_wp2_with fail
  refine HC.out.mono ?_
  rintro e w1 ⟨rfl, h1, hb1, hk1⟩
  obtain ⟨hB, v, hbk, hown, hne⟩ := h1
  have c0 : w1.cell? ⟨b, 0, none⟩ = some (.pointer (some ⟨b, 0, none⟩)) := by rw [Lib.cell_of_heap hbk]; rfl
  have c1 : w1.cell? ⟨b, 1, none⟩ = some v := by rw [Lib.cell_of_heap hbk]; rfl
  go_wp2_with (at_builtin; refine Lib.wpList_append_own_stringF _ rfl _ _ 68 9 rfl B 5 i0 hts htg hi hz0 hz1 hz2 _ _ _ rfl hown s rfl ?c3 ?c4 ?c5 ?_)
  case c3 => unfold maxLen; omega
  case c4 => omega
  case c5 => have := hb1.size; omega
  intro v' w2 hown' hgrow _
  have hlt : b < w1.heap.size := by
    rcases Nat.lt_or_ge b w1.heap.size with h' | h'
    · exact h'
    · simp [Array.getElem?_eq_none h'] at hbk
  have hb2 : w2.heap[b]? = some (.cells #[.pointer (some ⟨b, 0, none⟩), v] 99 (0, 0)) := by
    rw [hgrow.block b hlt (fun e => hne e.symm)]
    exact hbk
  have d0 : w2.cell? ⟨b, 0, none⟩ = some (.pointer (some ⟨b, 0, none⟩)) := by rw [Lib.cell_of_heap hb2]; rfl
  have d1 : w2.cell? ⟨b, 1, none⟩ = some v := by rw [Lib.cell_of_heap hb2]; rfl
  have f1 : w2.frozen? ⟨b, 1, none⟩ = false := Lib.frozen_of_heap hb2 1
  obtain ⟨ao, n', cap, rfl⟩ : ∃ ao n' cap, v' = .slice ao n' cap := by
    rcases hown'.2 with ⟨hv, _⟩ | ⟨g, cap, cur, fz, hv, _⟩
    · exact ⟨_, _, _, hv⟩
    · exact ⟨_, _, _, hv⟩
  go_wp2
  go_ret2
  refine ⟨⟨_, rfl⟩, ?_, ?_, (hk1.grown hgrow (Lib.ownsRowF_kind hown)).setCell ⟨b, 1, none⟩ rfl _⟩
  · exact Lib.BuilderAtF.put (T := 99) (e := 5) hB hb2 (bs' := bs ++ Lib.strCells s) (by simpa [Lib.strCells_length] using hown') (by decide)
  · exact (hb1.grown hgrow (by have := hb1.size; omega) (fun k hk => (hown.lt k hk).1)).setCell (p := ⟨b, 1, none⟩) hB _

set_option maxHeartbeats 1000000 in
set_option maxRecDepth 100000 in
theorem bstr_c (B b : Nat) (l : List UInt8) (w : World) (h : Lib.IsBuilderF 99 5 B b (Lib.byteCells l) w) (h0 : l ≠ []) :
    Calls Tryz.prog 40 #[.pointer (some ⟨b, 0, none⟩)] w fun e w' => e = .returned (.string ⟨l.toArray⟩) ∧ Below B w w' := by
  obtain ⟨p, hp, hAt⟩ : ∃ p, (p = .pointer none ∨ p = .pointer (some ⟨b, 0, none⟩)) ∧ Lib.BuilderAtF 99 5 B b p (Lib.byteCells l) w := by
    rcases h with h | h
    · exact ⟨_, .inl rfl, h⟩
    · exact ⟨_, .inr rfl, h⟩
  obtain ⟨hB, v, hbk, hown, hne⟩ := hAt
  have hl0 : l.length ≠ 0 := by simpa using h0
  rw [Lib.byteCells_length] at hown
  obtain ⟨g, cap, cur, fz, rfl, hbg, hg, hfz, hnc, hcm, hcs, htake⟩ : ∃ g cap cur fz, v = .slice (some ⟨g, 0, none⟩) l.length cap ∧ B ≤ g ∧ w.heap[g]? = some (.cells cur 5 fz) ∧ fz.2 ≤ l.length * 1 ∧ l.length ≤ cap ∧ cap ≤ maxLen ∧ cur.size = cap * 1 ∧ cur.toList.take (l.length * 1) = Lib.byteCells l := by
    rcases hown.2 with ⟨_, hz⟩ | ⟨g, cap, cur, fz, hv, r⟩
    · exact absurd hz hl0
    · exact ⟨g, cap, cur, fz, hv, r⟩
  have c1 : w.drew.cell? ⟨b, 1, none⟩ = some (.slice (some ⟨g, 0, none⟩) l.length cap) := by
    have : w.drew.heap[b]? = some (.cells #[p, .slice (some ⟨g, 0, none⟩) l.length cap] 99 (0, 0)) := hbk
    rw [Lib.cell_of_heap this]; rfl
  have hSD : ∀ ts ty, (Builtin.unsafeSliceData_ ts ty #[.slice (some ⟨g, 0, none⟩) l.length cap]).run Tryz.prog w.drew = .ok (.pointer (some ⟨g, 0, none⟩)) w.drew := fun ts ty =>
    Lib.run_unsafeSliceData_row _ _ _ _ _ _ (by omega)
  have hUS : (Builtin.unsafeString_ #[110, 3] 9 #[.pointer (some ⟨g, 0, none⟩), .int .i64 l.length]).run Tryz.prog w.drew = .ok (.string ⟨l.toArray⟩) (w.drew.freeze ⟨g, 0, none⟩ l.length) := by
    refine Lib.run_unsafeString_row w.drew 110 3 9 5 (by kernel_rfl) (by kernel_rfl) g cur.size (by have hg' : w.drew.heap[g]? = some (.cells cur 5 fz) := hg; simp [World.shape?, hg']) l h0 (by omega) (by unfold maxLen at hcm; omega) ?_
    intro j x hx
    have := hown.cells (g := g) rfl j (.int .u8 x.toNat) (by simp [Lib.byteCells, hx])
    exact this
  clear hown htake
  go_enter Tryz.func40, Tryz.ntmps40
  go_wp2
  go_region
  all_goals (go_wp2; go_ret; exact ⟨rfl, Lib.below_freeze (Below.drew (Below.refl B w)) (p := ⟨g, 0, none⟩) hbg _⟩)

end Go.Proofs.YtjbchkgkapccnaaGreatDoor

namespace Go.Proofs.YtjbchkgkapccnaaGreatDoor
open Go.RowKit
set_option linter.unusedVariables false

mutual
/-- How many are left behind counting an expression. -/
def Ex.count : Ex → Nat → Nat
  | .mk _ _ l, left => if 0 < left then Exs.count l (left - 1) else left
def Exs.count : List Ex → Nat → Nat
  | [], left => left
  | x :: l, left => Exs.count l (x.count left)
end
theorem Ex.count_eq (x : Ex) (left : Nat) : x.count left = if 0 < left then Exs.count x.args (left - 1) else left := by obtain ⟨o, n, l⟩ := x; rfl
mutual
theorem Ex.count_le : ∀ (x : Ex) (left : Nat), x.count left ≤ left
  | .mk o n l, left => by
    simp only [Ex.count]
    have := Exs.count_le l (left - 1)
    split <;> omega
theorem Exs.count_le : ∀ (l : List Ex) (left : Nat), Exs.count l left ≤ left
  | [], left => by simp [Exs.count]
  | x :: l, left => by
    simp only [Exs.count]
    have := Exs.count_le l (x.count left)
    have := Ex.count_le x left
    omega
end

/-- The blocks of the counting closure. -/
structure Cn (w : World) (bL bC left : Nat) : Prop where
  L : Blk w bL 3 #[.int .i64 left]
  C : Blk w bC 128 #[.func (.func 84) #[] #[.pointer (some ⟨bL, 0, none⟩), .pointer (some ⟨bC, 0, none⟩)]]
theorem Cn.alloc {w : World} {bL bC left : Nat} (h : Cn w bL bC left) (o : Obj) : Cn (w.alloc o) bL bC left := ⟨h.L.alloc o, h.C.alloc o⟩
theorem Cn.set {w : World} {bL bC left : Nat} (h : Cn w bL bC left) (hne : bL ≠ bC) (k : Nat) : Cn (w.setCell ⟨bL, 0, none⟩ (.int .i64 k)) bL bC k := ⟨h.L.set 0 _, h.C.other (p := ⟨bL, 0, none⟩) (Ne.symm hne) _⟩

def CountC (h : Nat) : Prop := ∀ (x : Ex) (v : Value) (B : Nat) (w : World) (bL bC left : Nat), x.ht ≤ h → ExAt w B v x → B ≤ bL → bL ≠ bC → left ≤ 2000 → Cn w bL bC left →
  Calls Tryz.prog 84 #[v, .pointer (some ⟨bL, 0, none⟩), .pointer (some ⟨bC, 0, none⟩)] w fun e w' => e = .returned (.tuple #[]) ∧ Cn w' bL bC (x.count left) ∧ Fr (fun k => k = bL) w w'

set_option maxHeartbeats 1000000 in
theorem count_step (h : Nat) (IH : Hid (∀ x : Ex, x.ht < h → ∀ (v : Value) (B : Nat) (w : World) (bL bC left : Nat), ExAt w B v x → B ≤ bL → bL ≠ bC → left ≤ 2000 → Cn w bL bC left →
      Calls Tryz.prog 84 #[v, .pointer (some ⟨bL, 0, none⟩), .pointer (some ⟨bC, 0, none⟩)] w fun e w' => e = .returned (.tuple #[]) ∧ Cn w' bL bC (x.count left) ∧ Fr (fun k => k = bL) w w')) : CountC h := by
  intro x v B w bL bC left hh hv hB hne hleft hC
  have HLT : Hid (∀ a ∈ x.args, a.ht < h) := fun a ha => by have := Ex.ht_args x a ha; omega
  have HE := Lib.hid (Ex.count_eq x left)
  obtain ⟨sv, rfl, hs⟩ := hv
  obtain ⟨a, cap, rfl, hcap, hmx⟩ := hs.slice
  have HS := Lib.hid hs
  have hlm : x.args.length ≤ 9223372036854775807 := by unfold maxLen at hmx; omega
  generalize x.op = o at *
  generalize x.n = n at *
  generalize x.args = l at *
  clear hs hh
  have HNE := Lib.hid hne
  have hbl := hC.L.lt
  have hbc := hC.C.lt
  by_cases h0 : 0 < left
  · have HE2 : Hid (x.count left = Exs.count l (left - 1)) := by show _ = _; rw [HE.out, if_pos h0]
    have hC2 := (hC.set hne (left - 1)).alloc (.cells #[.int .u8 o, .int .i64 n, .slice a l.length cap] 47)
    have hF2 : Fr (fun k => k = bL) w ((w.setCell ⟨bL, 0, none⟩ (.int .i64 ((left - 1 : Nat) : Int))).alloc (.cells #[.int .u8 o, .int .i64 n, .slice a l.length cap] 47)) := (Fr.setCell (S := fun k => k = bL) (Fr.refl _ w) (p := ⟨bL, 0, none⟩) (.inl rfl) _).alloc _
    rw [show ((left - 1 : Nat) : Int) = (left : Int) - 1 by omega] at hC2 hF2
    have c0 := hC.L.cell 0
    have f0 := hC.L.free 0
    have h0i : (0 : Int) < (left : Int) := by omega
    clear HE hne
    go_enter Tryz.func84, Tryz.ntmps84
    go_wp2_with fail
    generalize World.alloc (World.setCell w _ _) _ = W2 at *
    clear c0 f0
    go_loopw [13] (fun q wr => ∃ (j lf : Nat), q = .int .i64 j ∧ j ≤ l.length ∧ lf ≤ 2000 ∧ Fr (fun k => k = bL) w wr ∧ Cn wr bL bC lf ∧ Exs.count (l.drop j) lf = Exs.count l (left - 1)) (fun q _ => l.length - (intOf q).toNat)
    case atStart => exact ⟨0, left - 1, rfl, Nat.zero_le _, by omega, hF2, hC2, rfl⟩
    case round =>
      obtain ⟨j, lf, rfl, hj, hlf, hFr, hCr, hr⟩ := hrel
      by_cases hlt : j < l.length
      · have hBr : Below B w wr := hFr.below (by omega) (fun k hk e => by omega)
        obtain ⟨b, off, cp, sv, e1, hb, c0, c1, c2, hsub⟩ := (HS.out.keep hBr).at_ j hlt
        simp only [Value.slice.injEq, true_and] at e1
        obtain ⟨rfl, rfl⟩ := e1
        obtain ⟨a2, cap2, rfl, _, _⟩ := hsub.slice
        rw [List.drop_eq_getElem_cons hlt] at hr
        simp only [Exs.count] at hr
        have hht := HLT.out _ (List.getElem_mem hlt)
        have hx : ∀ X, Below B wr X → ExAt X B (.agg #[.int .u8 (l[j]'hlt).op, .int .i64 (l[j]'hlt).n, .slice a2 (l[j]'hlt).args.length cap2]) (l[j]'hlt) := fun X hX => ⟨_, rfl, hsub.keep hX⟩
        have hcl := Ex.count_le (l[j]'hlt) lf
        generalize l[j] = y at *
        have HX := Lib.hid hx
        have HR := Lib.hid hr
        clear hr hx hsub
        have hbw : B ≤ wr.heap.size := by have := hFr.size; omega
        have hK := hCr.alloc (.cells #[.int .u8 y.op, .int .i64 y.n, .slice a2 y.args.length cap2] 47)
        have k0 := hK.C.cell 0
        go_wp2_with (go_at_call 84; refine (IH.out y hht _ B _ bL bC lf (HX.out _ ((Below.refl _ _).alloc hbw _)) hB HNE.out hlf hK).mono ?_; rintro e w3 ⟨rfl, hc3, hf3⟩)
        go_roundw
        case rel => exact ⟨j + 1, y.count lf, by go_num, by omega, by omega, (hFr.alloc _).trans hf3, hc3, HR.out⟩
        case measure => simp [intOf]; omega
      · rw [List.drop_of_length_le (by omega)] at hr
        simp only [Exs.count] at hr
        subst hr
        go_wp2
        go_end0
        exact ⟨rfl, by rw [HE2.out]; exact hCr, hFr⟩
  · have HE2 : Hid (x.count left = left) := by show _ = _; rw [HE.out, if_neg h0]
    have hC1 := hC.alloc (.cells #[.int .u8 o, .int .i64 n, .slice a l.length cap] 47)
    have c0 := hC1.L.cell 0
    have h0i : ¬ (0 : Int) < (left : Int) := by omega
    clear HE hne
    go_enter Tryz.func84, Tryz.ntmps84
    go_wp2
    go_end0
    exact ⟨rfl, by rw [HE2.out]; exact hC1, (Fr.refl _ w).alloc _⟩

theorem count_all (h : Nat) : CountC h := by
  induction h using Nat.strongRecOn with
  | ind h ih => exact count_step h (fun x hx v B w bL bC left hv hB hne hl hC => ih x.ht hx x v B w bL bC left (Nat.le_refl _) hv hB hne hl hC)

def countGo : List Nd → Nat → Nat
  | [], left => left
  | d :: l, left => countGo l (d.x.count left)
theorem countGo_le : ∀ (l : List Nd) (left : Nat), countGo l left ≤ left
  | [], _ => Nat.le_refl _
  | d :: l, left => Nat.le_trans (countGo_le l _) (Ex.count_le _ _)
def Jb.parts (j : Jb) : Nat := 1001 - countGo j.nodes 1001

set_option maxHeartbeats 1000000 in
theorem parts_c (jb : Jb) (v : Value) (B : Nat) (w : World) (hv : JbAt w B v jb) (hB : B ≤ w.heap.size) :
    Calls Tryz.prog 49 #[v] w fun e w' => e = .returned (.int .i64 jb.parts) ∧ Below w.heap.size w w' := by
  have hmf : ∀ (fn : Fn) (first cap : Array Value) (w : World), (Instr.makeFunc fn first cap).run Tryz.prog w = .ok (.func fn first cap) w := fun _ _ _ _ => rfl
  have HE : Hid (jb.parts = 1001 - countGo jb.nodes 1001) := rfl
  have hle := countGo_le jb.nodes 1001
  obtain ⟨sv, rfl, hs⟩ := hv
  obtain ⟨a, cap, rfl, hcap, hmx⟩ := hs.slice
  have HS := Lib.hid hs
  have hlm : jb.nodes.length ≤ 9223372036854775807 := by unfold maxLen at hmx; omega
  generalize jb.nodes = l at *
  generalize jb.par = par at *
  generalize jb.parts = pp at *
  clear hs
  have hJ := Blk.new w #[.int .i64 par, .slice a l.length cap] 24
  have hW := ((((Below.refl w.heap.size w).alloc (Nat.le_refl _) (.cells #[.int .i64 par, .slice a l.length cap] 24)).alloc (by simp) (.cells #[.int .i64 1001] 3)).alloc (by simp; omega) (.cells #[.func (.func 84) #[] #[.pointer (some ⟨w.heap.size + 1, 0, none⟩), .pointer (some ⟨w.heap.size + 1 + 1, 0, none⟩)]] 128))
  have hC : Cn (((w.alloc (.cells #[.int .i64 par, .slice a l.length cap] 24)).alloc (.cells #[.int .i64 1001] 3)).alloc (.cells #[.func (.func 84) #[] #[.pointer (some ⟨w.heap.size + 1, 0, none⟩), .pointer (some ⟨w.heap.size + 1 + 1, 0, none⟩)]] 128)) (w.heap.size + 1) (w.heap.size + 1 + 1) 1001 :=
    ⟨(Blk.new_at _ _ _ (by simp)).alloc _, Blk.new_at _ _ _ (by simp)⟩
  clear hJ
  go_enter Tryz.func49, Tryz.ntmps49
  go_wp2_with fail
  generalize World.alloc (World.alloc (World.alloc w _) _) _ = W at *
  go_loopw [11] (fun q wr => ∃ (j lf : Nat), q = .int .i64 j ∧ j ≤ l.length ∧ lf ≤ 1001 ∧ Below w.heap.size w wr ∧ Cn wr (w.heap.size + 1) (w.heap.size + 1 + 1) lf ∧ countGo (l.drop j) lf = countGo l 1001) (fun q _ => l.length - (intOf q).toNat)
  case atStart => exact ⟨0, 1001, rfl, Nat.zero_le _, by omega, hW, hC, rfl⟩
  case round =>
    obtain ⟨j, lf, rfl, hj, hlf, hBr, hCr, hr⟩ := hrel
    by_cases hlt : j < l.length
    · obtain ⟨b, off, cp, e1, hb, hu, iv, sv, c0, c1, c2, c3, c4, c5, c6, hin⟩ := ((HS.out.mono hB).keep hBr).at_ j hlt
      simp only [Value.slice.injEq, true_and] at e1
      obtain ⟨rfl, rfl⟩ := e1
      obtain ⟨a2, cap2, rfl, _, _⟩ := hin.2.slice
      obtain ⟨_, ai, capi, rfl, _, _, _⟩ := id hin.1
      rw [List.drop_eq_getElem_cons hlt] at hr
      simp only [countGo] at hr
      have hx : ∀ X, Below w.heap.size wr X → ExAt X w.heap.size (.agg #[.int .u8 (l[j]'hlt).x.op, .int .i64 (l[j]'hlt).x.n, .slice a2 (l[j]'hlt).x.args.length cap2]) (l[j]'hlt).x := fun X hX => ⟨_, rfl, hin.2.keep hX⟩
      have hcl := Ex.count_le (l[j]'hlt).x lf
      generalize l[j] = y at *
      have HX := Lib.hid hx
      have HR := Lib.hid hr
      clear hr hx hin
      have hbw : w.heap.size ≤ wr.heap.size := hBr.size
      have hK := hCr.alloc (.cells #[.string y.uid, .int .u8 y.kind, .slice ai y.ins.length capi, .int .u8 y.x.op, .int .i64 y.x.n, .slice a2 y.x.args.length cap2, .int .i64 y.n] 49)
      have k0 := hK.C.cell 0
      go_wp2_with (go_at_call 84; refine (count_all _ y.x _ w.heap.size _ (w.heap.size + 1) (w.heap.size + 1 + 1) lf (Nat.le_refl _) (HX.out _ ((Below.refl _ _).alloc hbw _)) (by omega) (by omega) (by omega) hK).mono ?_; rintro e w3 ⟨rfl, hc3, hf3⟩)
      go_roundw
      case rel => exact ⟨j + 1, y.x.count lf, by go_num, by omega, by omega, (hBr.alloc hbw _).trans (hf3.below (by simp; omega) (fun k hk e => by omega)), hc3, HR.out⟩
      case measure => simp [intOf]; omega
    · rw [List.drop_of_length_le (by omega)] at hr
      simp only [countGo] at hr
      subst hr
      have k0 := hCr.L.cell 0
      go_wp2
      go_ret
      exact ⟨ret_int (by rw [HE.out]; omega), hBr⟩

end Go.Proofs.YtjbchkgkapccnaaGreatDoor

namespace Go.Proofs.YtjbchkgkapccnaaGreatDoor
open Go.RowKit
set_option linter.unusedVariables false

/-- The place of the first one for which p holds, behind k; -1: there is none. -/
def idxZ {α : Type} (p : α → Bool) : List α → Nat → Int
  | [], _ => -1
  | y :: l, k => bif p y then (k : Int) else idxZ p l (k + 1)
theorem idxZ_nonneg {α : Type} (p : α → Bool) : ∀ (l : List α) (k : Nat), (0 ≤ idxZ p l k) ↔ l.any p = true
  | [], k => by simp [idxZ]
  | y :: l, k => by
    simp only [idxZ, List.any_cons]
    cases h : p y
    · simpa using idxZ_nonneg p l (k + 1)
    · simp
theorem idxZ_le {α : Type} (p : α → Bool) : ∀ (l : List α) (k : Nat), -1 ≤ idxZ p l k ∧ idxZ p l k < k + l.length + 1
  | [], k => by simp [idxZ]; omega
  | y :: l, k => by
    have := idxZ_le p l (k + 1)
    simp only [idxZ, List.length_cons]
    cases p y <;> simp only [cond_true, cond_false] <;> omega

/-- An element of a row of strings. -/
theorem Sl.str {w : World} {B n : Nat} {v : Value} {zs : List ByteArray} (h : Sl w B 1 v n (zs.map Value.string)) (k : Nat) (hk : k < n) :
    ∃ b off cap, v = .slice (some ⟨b, off, none⟩) n cap ∧ b < B ∧ ∃ hl : k < zs.length, w.cell? ⟨b, off + k, none⟩ = some (.string (zs[k]'hl)) := by
  obtain ⟨h1, a, cap, hv, h2, h3, h4⟩ := h
  rw [List.length_map, Nat.mul_one] at h1
  rcases h4 with h4 | ⟨b, off, rfl, hb, hc⟩
  · omega
  · refine ⟨b, off, cap, hv, hb, by omega, ?_⟩
    rw [hc k (by omega)]
    simp [show k < zs.length by omega]
/-- The first k elements. -/
theorem Sl.take {w : World} {B n : Nat} {b off cap : Nat} {cs : List Value} (h : Sl w B 1 (.slice (some ⟨b, off, none⟩) n cap) n cs) (k : Nat) (hk : k ≤ n) : Sl w B 1 (.slice (some ⟨b, off, none⟩) k cap) k (cs.take k) := by
  obtain ⟨h1, a, cap', hv, h2, h3, h4⟩ := h
  simp only [Value.slice.injEq, true_and] at hv
  obtain ⟨rfl, rfl⟩ := hv
  refine ⟨by simp; omega, _, cap, rfl, by omega, h3, ?_⟩
  rcases h4 with h4 | ⟨b', off', he, hb, hc⟩
  · exact .inl (by omega)
  · simp only [Option.some.injEq, Addr.mk.injEq, and_true] at he
    obtain ⟨rfl, rfl⟩ := he
    exact .inr ⟨b, off, rfl, hb, fun j hj => by rw [hc j (by omega), List.getElem?_take, if_pos (by omega)]⟩

set_option maxHeartbeats 400000 in
theorem IndexInt_c (l : List Int) (n : Nat) (v : Value) (x : Int) (B : Nat) (w : World) (h : Sl w B 1 v n (l.map (Value.int .i64))) (hn : l.length = n) :
    Calls Tryz.prog 130 #[v, .int .i64 x] w fun e w' => e = .returned (.int .i64 (idxZ (fun y => x == y) l 0)) ∧ w = w' := by
  obtain ⟨_, a, cap, rfl, hc, hm, _⟩ := id h
  have H := Lib.hid h
  have HN := Lib.hid hn
  have hnm : n ≤ 9223372036854775807 := by unfold maxLen at hm; omega
  clear h hn
  rename_i hx1 hx2
  clear hx1 hx2
  go_enter Tryz.func130, Tryz.ntmps130
  go_wp2
  go_loop [8] (fun q => ∃ k : Nat, q = .int .i64 k ∧ k ≤ n ∧ idxZ (fun y => x == y) (l.drop k) k = idxZ (fun y => x == y) l 0) (fun q => n - (intOf q).toNat)
  case atStart => exact ⟨0, rfl, Nat.zero_le _, rfl⟩
  case round =>
    obtain ⟨k, rfl, hk, hr⟩ := hrel
    by_cases hlt : k < n
    · obtain ⟨b, off, cp, e1, hb, g1, p0⟩ := H.out.int k hlt
      simp only [Value.slice.injEq, true_and] at e1
      obtain ⟨rfl, rfl⟩ := e1
      rw [List.drop_eq_getElem_cons g1] at hr
      generalize l[k] = y at *
      simp only [idxZ] at hr
      have HR := Lib.hid hr
      clear hr
      cases hxy : (x == y)
      all_goals
        have HXY := Lib.hid hxy
        go_wp2
      · go_round
        case rel => exact ⟨k + 1, by go_num, by omega, by rw [← HR.out, HXY.out]; rfl⟩
        case measure => simp [intOf]; omega
      · go_ret
        exact ⟨ret_int (by rw [← HR.out, HXY.out]; rfl), rfl⟩
    · rw [List.drop_of_length_le (by have := HN.out; omega)] at hr
      have HR := Lib.hid hr
      clear hr
      go_wp2
      go_ret
      exact ⟨ret_int (by rw [← HR.out]; rfl), rfl⟩

set_option maxHeartbeats 400000 in
theorem ContainsInt_c (l : List Int) (n : Nat) (v : Value) (x : Int) (B : Nat) (w : World) (h : Sl w B 1 v n (l.map (Value.int .i64))) (hn : l.length = n) :
    Calls Tryz.prog 92 #[v, .int .i64 x] w fun e w' => e = .returned (.bool (l.any (fun y => x == y))) ∧ w = w' := by
  have hz := idxZ_nonneg (fun y => x == y) l 0
  cases ha : l.any (fun y => x == y)
  all_goals
    rw [ha] at hz
    have HZ := Lib.hid hz
    clear hz ha
    go_enter Tryz.func92, Tryz.ntmps92
    go_wp2_with (go_at_call 130; refine (IndexInt_c l n v x B w h hn).mono ?_; rintro e w1 ⟨rfl, rfl⟩; generalize idxZ (fun y => x == y) l 0 = z at *)
    go_ret
    exact ⟨ret_bool (by have hz := HZ.out; simp only [Bool.false_eq_true, iff_false, iff_true] at hz; simpa using hz), rfl⟩

set_option maxHeartbeats 400000 in
theorem IndexStr_c (l : List ByteArray) (n : Nat) (v : Value) (x : ByteArray) (B : Nat) (w : World) (h : Sl w B 1 v n (l.map Value.string)) (hn : l.length = n) :
    Calls Tryz.prog 78 #[v, .string x] w fun e w' => e = .returned (.int .i64 (idxZ (fun y => decide (x = y)) l 0)) ∧ w = w' := by
  obtain ⟨_, a, cap, rfl, hc, hm, _⟩ := id h
  have H := Lib.hid h
  have HN := Lib.hid hn
  have hnm : n ≤ 9223372036854775807 := by unfold maxLen at hm; omega
  clear h hn
  rename_i hx1 hx2
  clear hx1 hx2
  go_enter Tryz.func78, Tryz.ntmps78
  go_wp2
  go_loop [8] (fun q => ∃ k : Nat, q = .int .i64 k ∧ k ≤ n ∧ idxZ (fun y => decide (x = y)) (l.drop k) k = idxZ (fun y => decide (x = y)) l 0) (fun q => n - (intOf q).toNat)
  case atStart => exact ⟨0, rfl, Nat.zero_le _, rfl⟩
  case round =>
    obtain ⟨k, rfl, hk, hr⟩ := hrel
    by_cases hlt : k < n
    · obtain ⟨b, off, cp, e1, hb, g1, p0⟩ := H.out.str k hlt
      simp only [Value.slice.injEq, true_and] at e1
      obtain ⟨rfl, rfl⟩ := e1
      rw [List.drop_eq_getElem_cons g1] at hr
      generalize l[k] = y at *
      simp only [idxZ] at hr
      have HR := Lib.hid hr
      clear hr
      have hb := bytes_inj x y
      by_cases hxy : x = y
      · have HXY : Hid (decide (x = y) = true) := decide_eq_true hxy
        have hq : (x.toList == y.toList) = true := by simpa using hb.2 hxy
        clear hb hxy
        go_wp2
        go_ret
        exact ⟨ret_int (by rw [← HR.out, HXY.out]; rfl), rfl⟩
      · have HXY : Hid (decide (x = y) = false) := decide_eq_false hxy
        have hq : (x.toList == y.toList) = false := by simpa using fun h => hxy (hb.1 h)
        clear hb hxy
        go_wp2
        go_round
        case rel => exact ⟨k + 1, by go_num, by omega, by rw [← HR.out, HXY.out]; rfl⟩
        case measure => simp [intOf]; omega
    · rw [List.drop_of_length_le (by have := HN.out; omega)] at hr
      have HR := Lib.hid hr
      clear hr
      go_wp2
      go_ret
      exact ⟨ret_int (by rw [← HR.out]; rfl), rfl⟩

set_option maxHeartbeats 400000 in
theorem ContainsStr_c (l : List ByteArray) (n : Nat) (v : Value) (x : ByteArray) (B : Nat) (w : World) (h : Sl w B 1 v n (l.map Value.string)) (hn : l.length = n) :
    Calls Tryz.prog 91 #[v, .string x] w fun e w' => e = .returned (.bool (l.any (fun y => decide (x = y)))) ∧ w = w' := by
  have hz := idxZ_nonneg (fun y => decide (x = y)) l 0
  cases ha : l.any (fun y => decide (x = y))
  all_goals
    rw [ha] at hz
    have HZ := Lib.hid hz
    clear hz ha
    go_enter Tryz.func91, Tryz.ntmps91
    go_wp2_with (go_at_call 78; refine (IndexStr_c l n v x B w h hn).mono ?_; rintro e w1 ⟨rfl, rfl⟩; generalize idxZ (fun y => decide (x = y)) l 0 = z at *)
    go_ret
    exact ⟨ret_bool (by have hz := HZ.out; simp only [Bool.false_eq_true, iff_false, iff_true] at hz; simpa using hz), rfl⟩

/-- Whether a row has something twice, behind those of s. -/
def twiceGo {α : Type} (p : α → α → Bool) : List α → List α → Bool
  | _, [] => false
  | s, x :: l => s.any (p x) || twiceGo p (s ++ [x]) l
def twiceB {α : Type} (p : α → α → Bool) (l : List α) : Bool := twiceGo p [] l

set_option maxHeartbeats 1000000 in
theorem twiceInt_c (l : List Int) (n : Nat) (v : Value) (B : Nat) (w : World) (h : Sl w B 1 v n (l.map (Value.int .i64))) (hn : l.length = n) :
    Calls Tryz.prog 87 #[v] w fun e w' => e = .returned (.bool (twiceB (fun x y => x == y) l)) ∧ w = w' := by
  obtain ⟨_, a, cap, rfl, hc, hm, _⟩ := id h
  have H := Lib.hid h
  have HN := Lib.hid hn
  have hnm : n ≤ 9223372036854775807 := by unfold maxLen at hm; omega
  have hcm : cap ≤ 9223372036854775807 := by unfold maxLen at hm; omega
  clear h hn
  rename_i hx1 hx2
  clear hx1 hx2
  go_enter Tryz.func87, Tryz.ntmps87
  go_wp2
  go_loop [7] (fun q => ∃ k : Nat, q = .int .i64 k ∧ k ≤ n ∧ twiceGo (fun x y => x == y) (l.take k) (l.drop k) = twiceB (fun x y => x == y) l) (fun q => n - (intOf q).toNat)
  case atStart => exact ⟨0, rfl, Nat.zero_le _, rfl⟩
  case round =>
    obtain ⟨k, rfl, hk, hr⟩ := hrel
    by_cases hlt : k < n
    · obtain ⟨b, off, cp, e1, hb, g1, p0⟩ := H.out.int k hlt
      simp only [Value.slice.injEq, true_and] at e1
      obtain ⟨rfl, rfl⟩ := e1
      have HT := Lib.hid (H.out.take k hk)
      rw [List.drop_eq_getElem_cons g1] at hr
      have hts := List.take_succ_eq_append_getElem g1
      have HL : Hid ((l.take k).length = k) := by simp [Hid]; omega
      generalize l[k] = y at *
      rw [← List.map_take] at HT
      simp only [twiceGo] at hr
      have HR := Lib.hid hr
      have HTS := Lib.hid hts
      clear hr hts
      cases hxy : (l.take k).any (fun z => y == z)
      all_goals
        have HXY := Lib.hid hxy
        clear hxy
        go_wp2_with (go_at_call 92; refine (ContainsInt_c (l.take k) k _ y B _ HT.out HL.out).mono ?_; rintro e w1 ⟨rfl, rfl⟩; rw [HXY.out])
      · go_round
        case rel => exact ⟨k + 1, by go_num, by omega, by rw [HTS.out, ← HR.out, HXY.out]; rfl⟩
        case measure => simp [intOf]; omega
      · go_ret
        exact ⟨ret_bool (by rw [← HR.out, HXY.out]; rfl), rfl⟩
    · rw [List.drop_of_length_le (by have := HN.out; omega)] at hr
      have HR := Lib.hid hr
      clear hr
      go_wp2
      go_ret
      exact ⟨ret_bool (by rw [← HR.out]; rfl), rfl⟩

set_option maxHeartbeats 1000000 in
theorem twiceStr_c (l : List ByteArray) (n : Nat) (v : Value) (B : Nat) (w : World) (h : Sl w B 1 v n (l.map Value.string)) (hn : l.length = n) :
    Calls Tryz.prog 51 #[v] w fun e w' => e = .returned (.bool (twiceB (fun x y => decide (x = y)) l)) ∧ w = w' := by
  obtain ⟨_, a, cap, rfl, hc, hm, _⟩ := id h
  have H := Lib.hid h
  have HN := Lib.hid hn
  have hnm : n ≤ 9223372036854775807 := by unfold maxLen at hm; omega
  have hcm : cap ≤ 9223372036854775807 := by unfold maxLen at hm; omega
  clear h hn
  rename_i hx1 hx2
  clear hx1 hx2
  go_enter Tryz.func51, Tryz.ntmps51
  go_wp2
  go_loop [7] (fun q => ∃ k : Nat, q = .int .i64 k ∧ k ≤ n ∧ twiceGo (fun x y => decide (x = y)) (l.take k) (l.drop k) = twiceB (fun x y => decide (x = y)) l) (fun q => n - (intOf q).toNat)
  case atStart => exact ⟨0, rfl, Nat.zero_le _, rfl⟩
  case round =>
    obtain ⟨k, rfl, hk, hr⟩ := hrel
    by_cases hlt : k < n
    · obtain ⟨b, off, cp, e1, hb, g1, p0⟩ := H.out.str k hlt
      simp only [Value.slice.injEq, true_and] at e1
      obtain ⟨rfl, rfl⟩ := e1
      have HT := Lib.hid (H.out.take k hk)
      rw [List.drop_eq_getElem_cons g1] at hr
      have hts := List.take_succ_eq_append_getElem g1
      have HL : Hid ((l.take k).length = k) := by simp [Hid]; omega
      generalize l[k] = y at *
      rw [← List.map_take] at HT
      simp only [twiceGo] at hr
      have HR := Lib.hid hr
      have HTS := Lib.hid hts
      clear hr hts
      cases hxy : (l.take k).any (fun z => decide (y = z))
      all_goals
        have HXY := Lib.hid hxy
        clear hxy
        go_wp2_with (go_at_call 91; refine (ContainsStr_c (l.take k) k _ y B _ HT.out HL.out).mono ?_; rintro e w1 ⟨rfl, rfl⟩; rw [HXY.out])
      · go_round
        case rel => exact ⟨k + 1, by go_num, by omega, by rw [HTS.out, ← HR.out, HXY.out]; rfl⟩
        case measure => simp [intOf]; omega
      · go_ret
        exact ⟨ret_bool (by rw [← HR.out, HXY.out]; rfl), rfl⟩
    · rw [List.drop_of_length_le (by have := HN.out; omega)] at hr
      have HR := Lib.hid hr
      clear hr
      go_wp2
      go_ret
      exact ⟨ret_bool (by rw [← HR.out]; rfl), rfl⟩

/-- A place that is none ahead of 'at'. -/
def outB (at_ y : Int) : Bool := decide (y < 0) || decide (at_ ≤ y)

set_option maxHeartbeats 400000 in
theorem may1_c (y at_ : Int) (b : Nat) (w : World) (h : w.cell? ⟨b, 0, none⟩ = some (.int .i64 at_)) :
    Calls Tryz.prog 89 #[.int .i64 y, .pointer (some ⟨b, 0, none⟩)] w fun e w' => e = .returned (.bool (outB at_ y)) ∧ w = w' := by
  cases h1 : decide (y < 0)
  all_goals
    have HO : Hid (outB at_ y = (decide (y < 0) || decide (at_ ≤ y))) := rfl
    go_enter Tryz.func89, Tryz.ntmps89
    go_wp2
    go_ret
    exact ⟨ret_bool (by rw [HO.out, h1]; simp), rfl⟩

set_option maxHeartbeats 400000 in
theorem IndexOut_c (l : List Int) (n : Nat) (v : Value) (at_ : Int) (b : Nat) (B : Nat) (w : World) (h : Sl w B 1 v n (l.map (Value.int .i64))) (hn : l.length = n) (hb : w.cell? ⟨b, 0, none⟩ = some (.int .i64 at_)) :
    Calls Tryz.prog 128 #[v, .func (.func 89) #[] #[.pointer (some ⟨b, 0, none⟩)]] w fun e w' => e = .returned (.int .i64 (idxZ (outB at_) l 0)) ∧ w = w' := by
  obtain ⟨_, a, cap, rfl, hc, hm, _⟩ := id h
  have H := Lib.hid h
  have HN := Lib.hid hn
  have HB := Lib.hid hb
  have hnm : n ≤ 9223372036854775807 := by unfold maxLen at hm; omega
  clear h hn hb
  rename_i hx1 hx2
  clear hx1 hx2
  go_enter Tryz.func128, Tryz.ntmps128
  go_wp2
  go_loop [8] (fun q => ∃ k : Nat, q = .int .i64 k ∧ k ≤ n ∧ idxZ (outB at_) (l.drop k) k = idxZ (outB at_) l 0) (fun q => n - (intOf q).toNat)
  case atStart => exact ⟨0, rfl, Nat.zero_le _, rfl⟩
  case round =>
    obtain ⟨k, rfl, hk, hr⟩ := hrel
    by_cases hlt : k < n
    · obtain ⟨b', off, cp, e1, hb', g1, p0⟩ := H.out.int k hlt
      simp only [Value.slice.injEq, true_and] at e1
      obtain ⟨rfl, rfl⟩ := e1
      rw [List.drop_eq_getElem_cons g1] at hr
      generalize l[k] = y at *
      simp only [idxZ] at hr
      have HR := Lib.hid hr
      clear hr
      cases hxy : outB at_ y
      all_goals
        have HXY := Lib.hid hxy
        clear hxy
        go_wp2_with (go_at_call 89; refine (may1_c y at_ b _ HB.out).mono ?_; rintro e w1 ⟨rfl, rfl⟩; rw [HXY.out])
      · go_round
        case rel => exact ⟨k + 1, by go_num, by omega, by rw [← HR.out, HXY.out]; rfl⟩
        case measure => simp [intOf]; omega
      · go_ret
        exact ⟨ret_int (by rw [← HR.out, HXY.out]; rfl), rfl⟩
    · rw [List.drop_of_length_le (by have := HN.out; omega)] at hr
      have HR := Lib.hid hr
      clear hr
      go_wp2
      go_ret
      exact ⟨ret_int (by rw [← HR.out]; rfl), rfl⟩

set_option maxHeartbeats 400000 in
theorem ContainsOut_c (l : List Int) (n : Nat) (v : Value) (at_ : Int) (b : Nat) (B : Nat) (w : World) (h : Sl w B 1 v n (l.map (Value.int .i64))) (hn : l.length = n) (hb : w.cell? ⟨b, 0, none⟩ = some (.int .i64 at_)) :
    Calls Tryz.prog 88 #[v, .func (.func 89) #[] #[.pointer (some ⟨b, 0, none⟩)]] w fun e w' => e = .returned (.bool (l.any (outB at_))) ∧ w = w' := by
  have hz := idxZ_nonneg (outB at_) l 0
  cases ha : l.any (outB at_)
  all_goals
    rw [ha] at hz
    have HZ := Lib.hid hz
    have HB := Lib.hid hb
    clear hz ha hb
    go_enter Tryz.func88, Tryz.ntmps88
    go_wp2_with (go_at_call 128; refine (IndexOut_c l n v at_ b B w h hn HB.out).mono ?_; rintro e w1 ⟨rfl, rfl⟩; generalize idxZ (outB at_) l 0 = z at *)
    go_ret
    exact ⟨ret_bool (by have hz := HZ.out; simp only [Bool.false_eq_true, iff_false, iff_true] at hz; simpa using hz), rfl⟩

end Go.Proofs.YtjbchkgkapccnaaGreatDoor

namespace Go.Proofs.YtjbchkgkapccnaaGreatDoor
open Go.RowKit
set_option linter.unusedVariables false

theorem info_intJ : (Tryz.prog.info? 3).map (fun i => (i.zero, i.size, i.bytes)) = some (some (.int .i64 0), 1, 8) := by kernel_rfl
theorem cell_one_newJ (w : World) (a : Value) (t : TypeId) : ∀ j u, [a][j]? = some u → (w.alloc (.cells #[a] t)).cell? ((⟨w.heap.size, 0, none⟩ : Addr).add j) = some u := by
  intro j u hj
  have hj4 : j < 1 := (List.getElem?_eq_some_iff.1 hj).1
  rw [Addr.add_lit, Nat.zero_add, (Blk.new w #[a] t).cell j]
  simpa using hj

def readersGo (at_ : Int) : List Nd → Nat → List Int
  | [], _ => []
  | d :: l, k => bif d.ins.any (fun y => at_ == y) then (k : Int) :: readersGo at_ l (k + 1) else readersGo at_ l (k + 1)
def Jb.readers (j : Jb) (at_ : Int) : List Int := readersGo at_ j.nodes 0

structure RdRel (at_ : Int) (l : List Nd) (w : World) (s q : Value) (wr : World) : Prop where
  ex : ∃ (k : Nat) (xs : List Int), q = .int .i64 k ∧ k ≤ l.length ∧ Below w.heap.size w wr ∧ wr.ownsRow w.heap.size 3 1 s xs.length (xs.map (Value.int .i64)) ∧ xs.length ≤ k ∧ xs ++ readersGo at_ (l.drop k) k = readersGo at_ l 0

set_option maxHeartbeats 1000000 in
theorem readers_c (jb : Jb) (at_ : Int) (v : Value) (B : Nat) (w : World) (hv : JbAt w B v jb) (hB : B ≤ w.heap.size) (hlen : jb.nodes.length ≤ 1000) :
    Calls Tryz.prog 52 #[v, .int .i64 at_] w fun e w' => ∃ v', e = .returned v' ∧ Sl w' w'.heap.size 1 v' (jb.readers at_).length ((jb.readers at_).map (Value.int .i64)) ∧ Below w.heap.size w w' := by
  obtain ⟨i0, hi, hz0, hz1, hz2⟩ := info_parts info_intJ
  have HE : Hid (jb.readers at_ = readersGo at_ jb.nodes 0) := rfl
  obtain ⟨sv, rfl, hs⟩ := hv
  obtain ⟨a, cap, rfl, hcap, hmx⟩ := hs.slice
  have HS := Lib.hid hs
  generalize jb.nodes = l at *
  generalize jb.par = par at *
  generalize jb.readers at_ = rr at *
  clear hs
  have hW := (Below.refl w.heap.size w).alloc (Nat.le_refl _) (.cells #[.int .i64 par, .slice a l.length cap] 24)
  go_enter Tryz.func52, Tryz.ntmps52
  go_wp2_with fail
  generalize World.alloc w _ = W at *
  go_loopw [5, 11] (fun s q wr => RdRel at_ l w s q wr) (fun _ q _ => l.length - (intOf q).toNat)
  case atStart => exact ⟨⟨0, [], rfl, Nat.zero_le _, hW, World.ownsRow_nil _ _ _ _, Nat.le_refl _, rfl⟩⟩
  case round =>
    obtain ⟨k, xs, rfl, hk, hBr, hown, hxk, hr⟩ := hrel.ex
    clear hrel
    by_cases hlt : k < l.length
    · obtain ⟨b, off, cp, e1, hb, hu, iv, sv, c0, c1, c2, c3, c4, c5, c6, hin⟩ := ((HS.out.mono hB).keep hBr).at_ k hlt
      simp only [Value.slice.injEq, true_and] at e1
      obtain ⟨rfl, rfl⟩ := e1
      obtain ⟨a2, cap2, rfl, _, _⟩ := hin.2.slice
      obtain ⟨_, ai, capi, rfl, _, _, _⟩ := id hin.1
      rw [List.drop_eq_getElem_cons hlt] at hr
      simp only [readersGo] at hr
      have hsl := fun X (hX : Below w.heap.size wr X) => hin.1.below hX
      generalize l[k] = y at *
      have HSL := Lib.hid hsl
      have HR := Lib.hid hr
      rename_i hx1 hx2 hx3
      clear hr hin hsl hx1 hx2 hx3
      have hbw : w.heap.size ≤ wr.heap.size := hBr.size
      cases hc : y.ins.any (fun z => at_ == z)
      all_goals
        have HC := Lib.hid hc
        clear hc
      · go_wp2_with (go_at_call 92; refine (ContainsInt_c y.ins _ _ at_ _ _ (HSL.out _ ((Below.refl _ _).alloc hbw _)) rfl).mono ?_; rintro e w3 ⟨rfl, rfl⟩; rw [HC.out])
        go_roundw
        case rel => exact ⟨⟨k + 1, xs, by go_num, by omega, hBr.alloc hbw _, hown.alloc _, by omega, by rw [← HR.out, HC.out]; rfl⟩⟩
        case measure => simp [intOf]; omega
      · have hBn := hBr.alloc hbw (.cells #[.string y.uid, .int .u8 y.kind, .slice ai y.ins.length capi, .int .u8 y.x.op, .int .i64 y.x.n, .slice a2 y.x.args.length cap2, .int .i64 y.n] 49)
        have hon := hown.alloc (.cells #[.string y.uid, .int .u8 y.kind, .slice ai y.ins.length capi, .int .u8 y.x.op, .int .i64 y.x.n, .slice a2 y.x.args.length cap2, .int .i64 y.n] 49)
        go_upto_region 6 with (go_at_call 92; refine (ContainsInt_c y.ins _ _ at_ _ _ (HSL.out _ ((Below.refl _ _).alloc hbw _)) rfl).mono ?_; rintro e w3 ⟨rfl, rfl⟩; rw [HC.out])
        generalize World.alloc wr _ = W2 at *
        have hbw2 := hBn.size
        go_wp2_with (at_builtin; refine wpList_append_own _ rfl (.tmp 20) (.tmp 22) 37 rfl w.heap.size 3 i0 (.int .i64 0) 1 8 Tryz.underlying37 hi hz0 hz1 hz2 rfl (by decide) u5 xs.length (xs.map (Value.int .i64)) rfl (hon.alloc _) ⟨W2.heap.size, 0, none⟩ 1 1 [.int .i64 (k : Int)] rfl rfl (cell_one_newJ _ _ _) (by simp [Value.oneCell']) (by unfold maxLen; omega) (by omega) (by simp; omega) ?_; intro v1' w3 hown3 hgrow3 _)
        have hb3 : ∀ k, u5.ownBlock = some k → w.heap.size ≤ k := fun k hk => (hon.lt k hk).1
        have hB3 : Below w.heap.size w w3 := (hBn.alloc hbw2 _).grown hgrow3 (by simp; omega) hb3
        go_roundw
        case rel =>
          refine ⟨⟨k + 1, xs ++ [(k : Int)], by go_num, by omega, hB3, ?_, by simp; omega, by rw [← HR.out, HC.out]; simp⟩⟩
          simpa using hown3
        case measure => simp [intOf]; omega
    · rw [List.drop_of_length_le (by omega)] at hr
      simp only [readersGo, List.append_nil] at hr
      subst hr
      have HO := Lib.hid (Sl.of_owns hown)
      go_wp2
      go_ret
      refine ⟨_, rfl, ?_, hBr⟩
      rw [HE.out]
      exact HO.out

set_option maxHeartbeats 1000000 in
theorem find1_c (d : Nd) (u : ByteArray) (b : Nat) (v : Value) (B : Nat) (w : World) (hv : NdAt w B v d) (hu : w.cell? ⟨b, 0, none⟩ = some (.string u)) (hb : b < w.heap.size) :
    Calls Tryz.prog 117 #[v, .pointer (some ⟨b, 0, none⟩)] w fun e w' => e = .returned (.bool (decide (d.uid = u))) ∧ Below w.heap.size w w' := by
  obtain ⟨iv, sv, rfl, ⟨hi, hs⟩, hu2⟩ := hv
  obtain ⟨_, ai, capi, rfl, hc1, hm1, _⟩ := id hi
  obtain ⟨ax, capx, rfl, hc2, hm2⟩ := hs.slice
  have hbi := bytes_inj d.uid u
  have HU := Lib.hid hu
  by_cases hxy : d.uid = u
  · have HXY : Hid (decide (d.uid = u) = true) := decide_eq_true hxy
    have hq : (d.uid.toList == u.toList) = true := by simpa using hbi.2 hxy
    clear hbi hxy
    go_enter Tryz.func117, Tryz.ntmps117
    go_wp2
    go_ret
    exact ⟨ret_bool HXY.out.symm, (Below.refl _ _).alloc (Nat.le_refl _) _⟩
  · have HXY : Hid (decide (d.uid = u) = false) := decide_eq_false hxy
    have hq : (d.uid.toList == u.toList) = false := by simpa using fun h => hxy (hbi.1 h)
    clear hbi hxy
    go_enter Tryz.func117, Tryz.ntmps117
    go_wp2
    go_ret
    exact ⟨ret_bool HXY.out.symm, (Below.refl _ _).alloc (Nat.le_refl _) _⟩

set_option maxHeartbeats 1000000 in
theorem IndexNode_c (l : List Nd) (n : Nat) (u : ByteArray) (bu : Nat) (v : Value) (B : Nat) (w : World) (h : NodesAt w B l v) (hB : B ≤ w.heap.size) (hn : l.length = n) (hb : w.cell? ⟨bu, 0, none⟩ = some (.string u)) (hbl : bu < w.heap.size) :
    Calls Tryz.prog 116 #[v, .func (.func 117) #[] #[.pointer (some ⟨bu, 0, none⟩)]] w fun e w' => e = .returned (.int .i64 (idxZ (fun d : Nd => decide (d.uid = u)) l 0)) ∧ Below w.heap.size w w' := by
  obtain ⟨a, cap, rfl, hcap, hmx⟩ := h.slice
  have HS := Lib.hid h
  have HB := Lib.hid hb
  have hlm : n ≤ 9223372036854775807 := by unfold maxLen at hmx; omega
  have HN := Lib.hid hn
  rw [hn]
  clear h hb hn hcap hmx
  go_enter Tryz.func116, Tryz.ntmps116
  go_wp2
  go_loopw [8] (fun q wr => ∃ k : Nat, q = .int .i64 k ∧ k ≤ n ∧ Below w.heap.size w wr ∧ idxZ (fun d : Nd => decide (d.uid = u)) (l.drop k) k = idxZ (fun d : Nd => decide (d.uid = u)) l 0) (fun q _ => n - (intOf q).toNat)
  case atStart => exact ⟨0, rfl, Nat.zero_le _, Below.refl _ _, rfl⟩
  case round =>
    obtain ⟨k, rfl, hk, hBr, hr⟩ := hrel
    by_cases hlt : k < n
    · obtain ⟨b, off, cp, e1, hb', hu, iv, sv, c0, c1, c2, c3, c4, c5, c6, hin⟩ := ((HS.out.mono hB).keep hBr).at_ k (by have := HN.out; omega)
      rw [HN.out] at e1
      simp only [Value.slice.injEq, true_and] at e1
      obtain ⟨rfl, rfl⟩ := e1
      obtain ⟨a2, cap2, rfl, _, _⟩ := hin.2.slice
      obtain ⟨_, ai, capi, rfl, _, _, _⟩ := id hin.1
      rw [List.drop_eq_getElem_cons (by have := HN.out; omega)] at hr
      simp only [idxZ] at hr
      generalize l[k]'_ = y at *
      have HY : Hid (NdAt wr w.heap.size (.agg #[.string y.uid, .int .u8 y.kind, .slice ai y.ins.length capi, .int .u8 y.x.op, .int .i64 y.x.n, .slice a2 y.x.args.length cap2, .int .i64 y.n]) y) := ⟨_, _, rfl, hin, hu⟩
      have HR := Lib.hid hr
      rename_i hx1 hx2 hx3
      clear hr hin hx1 hx2 hx3 hu
      have hbw : w.heap.size ≤ wr.heap.size := hBr.size
      have HBr := Lib.hid ((hBr.cell (p := ⟨bu, 0, none⟩) hbl).trans HB.out)
      cases hc : decide (y.uid = u)
      all_goals
        have HC := Lib.hid hc
        clear hc
        go_wp2_with (go_at_call 117; refine (find1_c y u bu _ _ _ HY.out HBr.out (by omega)).mono ?_; rintro e w3 ⟨rfl, hb3⟩; rw [HC.out])
      · go_roundw
        case rel => exact ⟨k + 1, by go_num, by omega, hBr.trans (hb3.mono hbw), by rw [← HR.out, HC.out]; rfl⟩
        case measure => simp [intOf]; omega
      · go_ret
        exact ⟨ret_int (by rw [← HR.out, HC.out]; rfl), hBr.trans (hb3.mono hbw)⟩
    · rw [List.drop_of_length_le (by have := HN.out; omega)] at hr
      have HR := Lib.hid hr
      clear hr
      go_wp2
      go_ret
      exact ⟨ret_int (by rw [← HR.out]; rfl), hBr⟩

def Jb.find (j : Jb) (u : ByteArray) : Int := idxZ (fun d : Nd => decide (d.uid = u)) j.nodes 0

set_option maxHeartbeats 1000000 in
theorem Find_c (jb : Jb) (u : ByteArray) (v : Value) (B : Nat) (w : World) (hv : JbAt w B v jb) (hB : B ≤ w.heap.size) :
    Calls Tryz.prog 79 #[v, .string u] w fun e w' => e = .returned (.int .i64 (jb.find u)) ∧ Below w.heap.size w w' := by
  have hmf : ∀ (fn : Fn) (first cap : Array Value) (w : World), (Instr.makeFunc fn first cap).run Tryz.prog w = .ok (.func fn first cap) w := fun _ _ _ _ => rfl
  obtain ⟨sv, rfl, hs⟩ := hv
  obtain ⟨a, cap, rfl, hcap, hmx⟩ := hs.slice
  have HS := Lib.hid hs
  have HE : Hid (jb.find u = idxZ (fun d : Nd => decide (d.uid = u)) jb.nodes 0) := rfl
  generalize jb.nodes = l at *
  generalize jb.par = par at *
  have hb2 := ((Below.refl w.heap.size w).alloc (Nat.le_refl _) (.cells #[.int .i64 par, .slice a l.length cap] 24)).alloc (by simp) (.cells #[.string u] 9)
  have hN := Lib.hid ((Blk.new_at (w.alloc (.cells #[.int .i64 par, .slice a l.length cap] 24)) #[.string u] 9 (k := w.heap.size + 1) (by simp)).cell 0)
  have HSZ : Hid (((w.alloc (.cells #[.int .i64 par, .slice a l.length cap] 24)).alloc (.cells #[.string u] 9)).heap.size = w.heap.size + 2) := by simp [Hid]
  clear hs
  go_enter Tryz.func79, Tryz.ntmps79
  go_wp2_with (go_at_call 116; refine (IndexNode_c l _ u (w.heap.size + 1) _ w.heap.size _ ((HS.out.mono hB).keep hb2) hb2.size rfl hN.out (by have := HSZ.out; omega)).mono ?_; rintro e w3 ⟨rfl, hb3⟩)
  go_ret
  exact ⟨ret_int HE.out.symm, hb2.trans (hb3.mono hb2.size)⟩

end Go.Proofs.YtjbchkgkapccnaaGreatDoor

namespace Go.Proofs.YtjbchkgkapccnaaGreatDoor
open Go.RowKit Go.ChangeShapes Go.WideShapes
set_option linter.unusedVariables false

theorem cellsNode : Tryz.prog.cellsOf 49 = 7 := by kernel_rfl
theorem cellsInt : Tryz.prog.cellsOf 3 = 1 := by kernel_rfl
theorem cellsJob : Tryz.prog.cellsOf 24 = 2 := by kernel_rfl

theorem addr_add (b off k : Nat) : (⟨b, off, none⟩ : Addr).add k = ⟨b, off + k, none⟩ := by
  unfold Addr.add; split
  · rename_i h; rw [h]; rfl
  · rfl

section
variable {H : Type} {enc : TypeId × Value → H} {w : World}

theorem wf_i64r {k : Int} (h : (Lit.int .i64 k).wf = true) : -9223372036854775808 ≤ k ∧ k ≤ 9223372036854775807 := by
  simp only [Lit.wf, IntKind.min, IntKind.max, IntKind.signed, IntKind.bits, Bool.and_eq_true] at h
  have h1 := h.1
  have h2 := h.2
  simp at h1 h2
  omega
theorem wf_u8r {k : Int} (h : (Lit.int .u8 k).wf = true) : 0 ≤ k ∧ k ≤ 255 := by
  simp only [Lit.wf, IntKind.min, IntKind.max, IntKind.signed, IntKind.bits, Bool.and_eq_true] at h
  have h1 := h.1
  have h2 := h.2
  simp at h1 h2
  omega

set_option maxRecDepth 100000 in
theorem open_ints1 (fuel : Nat) (sv : Value) (x : DataW H × List MemPlace) (h : DataW.trod enc Tryz.prog w 0 (fun _ => true) true fuel 37 [sv] = some x) :
    ∃ l : List Int, Sl w w.heap.size 1 sv l.length (l.map (Value.int .i64)) ∧ ∀ z ∈ l, -9223372036854775808 ≤ z ∧ z ≤ 9223372036854775807 := by
  rcases DataW.trod_slice Tryz.underlying37 h with ⟨h0, _⟩ | ⟨a, len, cap, elems, rest, n, hf, hcs, hx, hb, hl, hm, hlen, hel, _, _⟩
  · simp only [List.cons.injEq, and_true] at h0
    subst h0
    exact ⟨[], Sl.nil _ _ _, by simp⟩
  · simp only [List.cons.injEq, and_true] at hcs
    subst hcs
    rw [cellsInt] at hel
    have hex : ∀ i, i < len → ∃ z : Int, w.cell? (a.add i) = some (.int .i64 z) ∧ -9223372036854775808 ≤ z ∧ z ≤ 9223372036854775807 := by
      intro i hi
      have hi2 : i < elems.length := by omega
      have h1 := hel i hi
      rw [List.getElem?_eq_getElem hi2] at h1
      obtain ⟨cs, h2, h3⟩ := Option.bind_eq_some_iff.1 h1
      obtain ⟨_, hcl, hcell⟩ := World.cells?_some h2
      match cs, hcl with
      | [c0], _ =>
        obtain ⟨o, ho, _, hwo⟩ := DataW.trod_int Tryz.underlying3 h3
        simp only [List.cons.injEq, and_true] at ho
        subst ho
        have g0 := hcell 0 (by omega)
        rw [Go.Deep.add_add] at g0
        exact ⟨o, by simpa using g0, wf_i64r hwo⟩
    by_cases h0 : len = 0
    · subst h0
      exact ⟨[], ⟨rfl, _, cap, rfl, Nat.zero_le _, hm, .inl rfl⟩, by simp⟩
    · obtain ⟨Y, hY⟩ := @Go.Deep.choose_lt Int ⟨0⟩ len _ hex
      obtain ⟨b, off, rfl⟩ : ∃ b off, a = ⟨b, off, none⟩ := ⟨_, _, add_spot (by have := (hY 0 (by omega)).1; simpa [Addr.add] using this)⟩
      have hlt : b < w.heap.size := World.block_lt_of_cell? _ _ (by have := (hY 0 (by omega)).1; simpa [Addr.add] using this : w.cell? ⟨b, off, none⟩ = some _)
      refine ⟨(List.range len).map Y, ⟨by simp, some ⟨b, off, none⟩, cap, by simp, by simpa using hl, hm, .inr ⟨b, off, rfl, hlt, fun j hj => ?_⟩⟩, ?_⟩
      · have hj' : j < len := by simpa using hj
        have := (hY j hj').1
        rw [addr_add] at this
        rw [this]
        simp [hj']
      · intro z hz
        obtain ⟨i, hi, rfl⟩ := List.mem_map.1 hz
        exact (hY i (by simpa using hi)).2

set_option maxRecDepth 100000 in
theorem open_nodes (fuel : Nat) (sv : Value) (x : DataW H × List MemPlace) (h : DataW.trod enc Tryz.prog w 0 (fun _ => true) true fuel 22 [sv] = some x) :
    ∃ l : List Nd, NodesAt w w.heap.size l sv ∧ ∀ d ∈ l, d.ok := by
  rcases DataW.trod_slice Tryz.underlying22 h with ⟨h0, _⟩ | ⟨a, len, cap, elems, rest, n, hf, hcs, hx, hb, hl, hm, hlen, hel, _, _⟩
  · simp only [List.cons.injEq, and_true] at h0
    subst h0
    exact ⟨[], ⟨none, 0, rfl, Nat.zero_le _, Nat.zero_le _, .inl rfl⟩, by simp⟩
  · simp only [List.cons.injEq, and_true] at hcs
    subst hcs
    rw [cellsNode] at hel
    have hex : ∀ i, i < len → ∃ (y : Nd) (iv sv : Value), w.cell? (a.add (i * 7)) = some (.string y.uid) ∧ w.cell? (a.add (i * 7 + 1)) = some (.int .u8 y.kind) ∧ w.cell? (a.add (i * 7 + 2)) = some iv ∧
        w.cell? (a.add (i * 7 + 3)) = some (.int .u8 y.x.op) ∧ w.cell? (a.add (i * 7 + 4)) = some (.int .i64 y.x.n) ∧ w.cell? (a.add (i * 7 + 5)) = some sv ∧ w.cell? (a.add (i * 7 + 6)) = some (.int .i64 y.n) ∧
        NdIn w w.heap.size iv sv y ∧ y.uid.size ≤ maxLen ∧ y.ok := by
      intro i hi
      have hi2 : i < elems.length := by omega
      have h1 := hel i hi
      rw [List.getElem?_eq_getElem hi2] at h1
      obtain ⟨cs, h2, h3⟩ := Option.bind_eq_some_iff.1 h1
      obtain ⟨_, hcl, hcell⟩ := World.cells?_some h2
      obtain ⟨xs, m, hm2, _, _, hxl, hfs⟩ := DataW.trod_struct Tryz.underlying49 h3
      match cs, hcl with
      | [c0, c1, c2, c3, c4, c5, c6], _ =>
        have q0 := hfs 0 _ rfl
        have q1 := hfs 1 _ rfl
        have q2 := hfs 2 _ rfl
        have q3 := hfs 3 _ rfl
        have q4 := hfs 4 _ rfl
        have hxl : xs.length = 5 := by assumption
        obtain ⟨y0, y1, y2, y3, y4, rfl⟩ : ∃ y0 y1 y2 y3 y4, xs = [y0, y1, y2, y3, y4] := by
          match xs, hxl with
          | [y0, y1, y2, y3, y4], _ => exact ⟨y0, y1, y2, y3, y4, rfl⟩
        have e0 : DataW.trod enc Tryz.prog w 0 (fun _ => true) true m 9 [c0] = some y0 := q0
        have e1 : DataW.trod enc Tryz.prog w 0 (fun _ => true) true m 5 [c1] = some y1 := q1
        have e2 : DataW.trod enc Tryz.prog w 0 (fun _ => true) true m 37 [c2] = some y2 := q2
        have e3 : DataW.trod enc Tryz.prog w 0 (fun _ => true) true m 47 [c3, c4, c5] = some y3 := q3
        have e4 : DataW.trod enc Tryz.prog w 0 (fun _ => true) true m 3 [c6] = some y4 := q4
        obtain ⟨s, hs, _, hws⟩ := DataW.trod_string Tryz.underlying9 e0
        obtain ⟨o, ho, _, hwo⟩ := DataW.trod_int Tryz.underlying5 e1
        obtain ⟨k, hk, _, hwk⟩ := DataW.trod_int Tryz.underlying3 e4
        obtain ⟨li, hli1, hli2⟩ := open_ints1 m c2 y2 e2
        obtain ⟨zs, m2, _, _, _, hzl, hgs⟩ := DataW.trod_struct Tryz.underlying47 e3
        have p0 := hgs 0 _ rfl
        have p1 := hgs 1 _ rfl
        have p2 := hgs 2 _ rfl
        have hzl : zs.length = 3 := by assumption
        obtain ⟨z0, z1, z2, rfl⟩ : ∃ z0 z1 z2, zs = [z0, z1, z2] := by
          match zs, hzl with
          | [z0, z1, z2], _ => exact ⟨z0, z1, z2, rfl⟩
        have f0 : DataW.trod enc Tryz.prog w 0 (fun _ => true) true m2 5 [c3] = some z0 := p0
        have f1 : DataW.trod enc Tryz.prog w 0 (fun _ => true) true m2 2 [c4] = some z1 := p1
        have f2 : DataW.trod enc Tryz.prog w 0 (fun _ => true) true m2 45 [c5] = some z2 := p2
        obtain ⟨xo, hxo, _, hwxo⟩ := DataW.trod_int Tryz.underlying5 f0
        obtain ⟨xk, hxk, _, hwxk⟩ := DataW.trod_int Tryz.underlying2 f1
        obtain ⟨la, hla1, hla2⟩ := open_exs m2 c5 z2 f2
        simp only [List.cons.injEq, and_true] at hs ho hk hxo hxk
        subst hs ho hk hxo hxk
        have g0 := hcell 0 (by omega)
        have g1 := hcell 1 (by omega)
        have g2 := hcell 2 (by omega)
        have g3 := hcell 3 (by omega)
        have g4 := hcell 4 (by omega)
        have g5 := hcell 5 (by omega)
        have g6 := hcell 6 (by omega)
        rw [Go.Deep.add_add] at g0 g1 g2 g3 g4 g5 g6
        have r1 := wf_u8r hwo
        have r2 := wf_i64r hwk
        have r3 := wf_u8r hwxo
        have r4 := wf_i64r hwxk
        exact ⟨⟨s, o, li, .mk xo xk la, k⟩, c2, c5, by simpa using g0, by simpa using g1, by simpa using g2, by simpa [Ex.op] using g3, by simpa [Ex.n] using g4, by simpa using g5, by simpa using g6, ⟨hli1, hla1⟩, hws,
          r1.1, r1.2, hli2, by simp only [Ex.ok]; exact ⟨r3.1, r3.2, r4.1, r4.2, hla2⟩, r2.1, r2.2⟩
    by_cases h0 : len = 0
    · subst h0
      exact ⟨[], ⟨_, cap, rfl, Nat.zero_le _, hm, .inl rfl⟩, by simp⟩
    · obtain ⟨Y, hY⟩ := @Go.Deep.choose_lt Nd ⟨⟨ByteArray.empty, 0, [], .mk 0 0 [], 0⟩⟩ len _ hex
      obtain ⟨V, hV⟩ := Go.Deep.choose_lt hY
      obtain ⟨U, hU⟩ := Go.Deep.choose_lt hV
      obtain ⟨b, off, rfl⟩ : ∃ b off, a = ⟨b, off, none⟩ := ⟨_, _, add_spot (by have := (hU 0 (by omega)).1; simpa [Addr.add] using this)⟩
      have hlt : b < w.heap.size := World.block_lt_of_cell? _ _ (by have := (hU 0 (by omega)).1; simpa [Addr.add] using this : w.cell? ⟨b, off, none⟩ = some _)
      refine ⟨(List.range len).map Y, ⟨some ⟨b, off, none⟩, cap, by simp, by simpa using hl, hm, .inr ⟨b, off, rfl, hlt, fun j hj => ?_⟩⟩, ?_⟩
      · have hj' : j < len := by simpa using hj
        obtain ⟨c0, c1, c2, c3, c4, c5, c6, hin, hu, _⟩ := hU j hj'
        simp only [addr_add, ← Nat.add_assoc] at c0 c1 c2 c3 c4 c5 c6
        have hg : ((List.range len).map Y)[j]'hj = Y j := by simp
        rw [hg]
        exact ⟨hu, V j, U j, c0, c1, c2, c3, c4, c5, c6, hin⟩
      · intro z hz
        obtain ⟨i, hi, rfl⟩ := List.mem_map.1 hz
        exact (hU i (by simpa using hi)).2.2.2.2.2.2.2.2.2

set_option maxRecDepth 100000 in
/-- A job that is handed in by value. -/
theorem open_job {r : Reach} {b0 : Nat} {v : Value} {d : DataW H} {p : List MemPlace} (hv : Value.okWide Tryz.prog w r b0 24 v) (h : DataW.Trod enc Tryz.prog w 0 (fun _ => true) true 24 v d p) :
    ∃ x : Jb, JbAt w w.heap.size v x ∧ x.ok := by
  obtain ⟨c0, c1, y0, y1, m, rfl, _, _, e0, e1⟩ := Go.Joins.open_agg2 Tryz.underlying24 (by kernel_rfl) cellsJob hv h
  obtain ⟨o, ho, _, hwo⟩ := DataW.trod_int Tryz.underlying3 e0
  simp only [List.cons.injEq, and_true] at ho
  subst ho
  obtain ⟨l, hl1, hl2⟩ := open_nodes m c1 y1 e1
  have r := wf_i64r hwo
  exact ⟨⟨o, l⟩, ⟨c1, rfl, hl1⟩, r.1, r.2, hl2⟩

end
end Go.Proofs.YtjbchkgkapccnaaGreatDoor

namespace Go.Proofs.YtjbchkgkapccnaaGreatDoor
open Go.RowKit
set_option linter.unusedVariables false

def intsB : List Int → List Int → Bool
  | [], [] => true
  | x :: l, y :: m => (x == y) && intsB l m
  | _, _ => false
theorem intsB_len : ∀ (l m : List Int), l.length ≠ m.length → intsB l m = false
  | [], [], h => absurd rfl h
  | [], _ :: _, _ => rfl
  | _ :: _, [], _ => rfl
  | x :: l, y :: m, h => by simp only [intsB]; rw [intsB_len l m (by simpa using h), Bool.and_false]
theorem intsB_iff : ∀ (l m : List Int), intsB l m = true ↔ l = m
  | [], [] => by simp [intsB]
  | [], _ :: _ => by simp [intsB]
  | _ :: _, [] => by simp [intsB]
  | x :: l, y :: m => by simp [intsB, intsB_iff l m]

set_option maxHeartbeats 400000 in
theorem EqualInt_c (l1 l2 : List Int) (n1 n2 : Nat) (v1 v2 : Value) (B : Nat) (w : World) (h1 : Sl w B 1 v1 n1 (l1.map (Value.int .i64))) (h2 : Sl w B 1 v2 n2 (l2.map (Value.int .i64))) (hn1 : l1.length = n1) (hn2 : l2.length = n2) :
    Calls Tryz.prog 32 #[v1, v2] w fun e w' => e = .returned (.bool (intsB l1 l2)) ∧ ∃ n, w' = w.drewN n := by
  by_cases hl : n1 = n2
  · obtain rfl : n1 = n2 := hl
    obtain ⟨_, a1, cap1, rfl, hc1, hm1, _⟩ := id h1
    obtain ⟨_, a2, cap2, rfl, hc2, hm2, _⟩ := id h2
    have H1 := Lib.hid h1
    have H2 := Lib.hid h2
    have HN1 := Lib.hid hn1
    have HN2 := Lib.hid hn2
    have hnm : n1 ≤ 9223372036854775807 := by unfold maxLen at hm1; omega
    clear h1 h2 hn1 hn2
    rename_i hx1 hx2 hx3 hx4
    clear hx1 hx2 hx3 hx4
    go_enter Tryz.func32, Tryz.ntmps32
    go_wp2
    go_loopw [13] (fun i wr => ∃ k m : Nat, i = .int .i64 k ∧ k ≤ n1 ∧ wr = w.drewN m ∧ intsB (l1.drop k) (l2.drop k) = intsB l1 l2) (fun i _ => n1 - (intOf i).toNat)
    case atStart => exact ⟨0, 0, rfl, by omega, rfl, rfl⟩
    case round =>
      obtain ⟨k, m, rfl, hk, rfl, hr⟩ := hrel
      by_cases hlt : k < n1
      · obtain ⟨b1, o1, c1, e1, _, g1, p0⟩ := H1.out.int k hlt
        obtain ⟨b2, o2, c2, e2, _, g2, q0⟩ := H2.out.int k hlt
        simp only [Value.slice.injEq, true_and] at e1 e2
        obtain ⟨rfl, rfl⟩ := e1
        obtain ⟨rfl, rfl⟩ := e2
        rw [List.drop_eq_getElem_cons g1, List.drop_eq_getElem_cons g2] at hr
        generalize l1[k] = x at *
        generalize l2[k] = y at *
        simp only [intsB] at hr
        have HR := Lib.hid hr
        clear hr
        by_cases hxy : x = y
        · have HXY : Hid ((x == y) = true) := by simpa [Hid] using hxy
          have hq : (x != y) = false := by simpa using hxy
          clear hxy
          go_wp2
          go_quiet (fail)
          go_wp2
          go_roundw
          case rel => exact ⟨k + 1, m + nq, by go_num, by omega, rfl, by rw [← HR.out, HXY.out, Bool.true_and]⟩
          case measure => simp [intOf]; omega
        · have HXY : Hid ((x == y) = false) := by simpa [Hid] using hxy
          have hq : (x != y) = true := by simpa using hxy
          clear hxy
          go_wp2
          go_quiet (fail)
          go_wp2
          go_ret
          exact ⟨ret_bool (by rw [← HR.out, HXY.out]; rfl), _, World.drewN_drewN _ _ _⟩
      · have e1 : l1.drop k = [] := List.drop_of_length_le (by have := HN1.out; omega)
        have e2 : l2.drop k = [] := List.drop_of_length_le (by have := HN2.out; omega)
        rw [e1, e2] at hr
        have HR := Lib.hid hr
        clear hr e1 e2
        go_wp2
        go_ret
        exact ⟨ret_bool (by rw [← HR.out]; rfl), _, rfl⟩
  · obtain ⟨_, a1, cap1, rfl, hc1, hm1, _⟩ := h1
    obtain ⟨_, a2, cap2, rfl, hc2, hm2, _⟩ := h2
    rename_i hx1 hx2 hx3 hx4
    clear hx1 hx2 hx3 hx4
    have hne : ((n1 : Int) != (n2 : Int)) = true := by rw [bne_iff_ne]; omega
    have HE := Lib.hid (intsB_len l1 l2 (by omega))
    clear hn1 hn2
    go_enter Tryz.func32, Tryz.ntmps32
    go_wp2
    go_ret
    exact ⟨ret_bool HE.out.symm, 0, rfl⟩

def Nd.sameB (x y : Nd) : Bool := decide (x.uid = y.uid) && ((x.kind == y.kind) && ((x.n == y.n) && (intsB x.ins y.ins && x.x.sameB y.x)))
def Nds.sameB : List Nd → List Nd → Bool
  | [], [] => true
  | x :: l, y :: m => x.sameB y && Nds.sameB l m
  | _, _ => false
theorem Nds.sameB_len : ∀ (l m : List Nd), l.length ≠ m.length → Nds.sameB l m = false
  | [], [], h => absurd rfl h
  | [], _ :: _, _ => rfl
  | _ :: _, [], _ => rfl
  | x :: l, y :: m, h => by simp only [Nds.sameB]; rw [Nds.sameB_len l m (by simpa using h), Bool.and_false]
def Jb.sameB (x y : Jb) : Bool := (x.par == y.par) && Nds.sameB x.nodes y.nodes

theorem Nd.sameB_cases (x y : Nd) : ((x.uid = y.uid) ∧ (x.kind = y.kind) ∧ (x.n = y.n) ∧ intsB x.ins y.ins = true ∧ x.sameB y = x.x.sameB y.x) ∨
    (x.sameB y = false ∧ (¬ (x.uid = y.uid) ∨ (x.uid = y.uid ∧ ¬ x.kind = y.kind) ∨ (x.uid = y.uid ∧ x.kind = y.kind ∧ ¬ x.n = y.n) ∨ (x.uid = y.uid ∧ x.kind = y.kind ∧ x.n = y.n ∧ intsB x.ins y.ins = false))) := by
  unfold Nd.sameB
  by_cases h1 : x.uid = y.uid
  · by_cases h2 : x.kind = y.kind
    · by_cases h3 : x.n = y.n
      · cases h4 : intsB x.ins y.ins
        · simp [h1, h2, h3]
        · simp [h1, h2, h3]
      · simp [h1, h2, h3]
    · simp [h1, h2]
  · simp [h1]

set_option maxHeartbeats 1000000 in
theorem nsame_c (x y : Nd) (v u : Value) (B : Nat) (w : World) (hv : NdAt w B v x) (hu : NdAt w B u y) (hB : B ≤ w.heap.size) :
    Calls Tryz.prog 31 #[v, u] w fun e w' => e = .returned (.bool (x.sameB y)) ∧ Below w.heap.size w w' := by
  obtain ⟨iv, sv, rfl, ⟨hi, hs⟩, hu1⟩ := hv
  obtain ⟨jv, tv, rfl, ⟨hj, ht⟩, hu2⟩ := hu
  obtain ⟨_, ai, capi, rfl, hc1, hm1, _⟩ := id hi
  obtain ⟨_, bi, capj, rfl, hc2, hm2, _⟩ := id hj
  obtain ⟨ax, capx, rfl, _, _⟩ := hs.slice
  obtain ⟨bx, capy, rfl, _, _⟩ := ht.slice
  rename_i hx1 hx2 hx3 hx4 hx5 hx6
  have hW := ((Below.refl w.heap.size w).alloc (Nat.le_refl _) (.cells #[.string x.uid, .int .u8 x.kind, .slice ai x.ins.length capi, .int .u8 x.x.op, .int .i64 x.x.n, .slice ax x.x.args.length capx, .int .i64 x.n] 49)).alloc (by simp) (.cells #[.string y.uid, .int .u8 y.kind, .slice bi y.ins.length capj, .int .u8 y.x.op, .int .i64 y.x.n, .slice bx y.x.args.length capy, .int .i64 y.n] 49)
  have hwz : w.heap.size + 2 = ((w.alloc (.cells #[.string x.uid, .int .u8 x.kind, .slice ai x.ins.length capi, .int .u8 x.x.op, .int .i64 x.x.n, .slice ax x.x.args.length capx, .int .i64 x.n] 49)).alloc (.cells #[.string y.uid, .int .u8 y.kind, .slice bi y.ins.length capj, .int .u8 y.x.op, .int .i64 y.x.n, .slice bx y.x.args.length capy, .int .i64 y.n] 49)).heap.size := by simp
  have hNX := (Blk.new w #[.string x.uid, .int .u8 x.kind, .slice ai x.ins.length capi, .int .u8 x.x.op, .int .i64 x.x.n, .slice ax x.x.args.length capx, .int .i64 x.n] 49).alloc (.cells #[.string y.uid, .int .u8 y.kind, .slice bi y.ins.length capj, .int .u8 y.x.op, .int .i64 y.x.n, .slice bx y.x.args.length capy, .int .i64 y.n] 49)
  have hNY := Blk.new_at (w.alloc (.cells #[.string x.uid, .int .u8 x.kind, .slice ai x.ins.length capi, .int .u8 x.x.op, .int .i64 x.x.n, .slice ax x.x.args.length capx, .int .i64 x.n] 49)) #[.string y.uid, .int .u8 y.kind, .slice bi y.ins.length capj, .int .u8 y.x.op, .int .i64 y.x.n, .slice bx y.x.args.length capy, .int .i64 y.n] 49 (k := w.heap.size + 1) (by simp)
  have HI := Lib.hid hi
  have HJ := Lib.hid hj
  have HX : Hid (∀ X, Below w.heap.size w X → ExAt X X.heap.size (.agg #[.int .u8 x.x.op, .int .i64 x.x.n, .slice ax x.x.args.length capx]) x.x) := fun X hX => ⟨_, rfl, ((hs.mono hB).keep hX).mono hX.size⟩
  have HY : Hid (∀ X, Below w.heap.size w X → ExAt X X.heap.size (.agg #[.int .u8 y.x.op, .int .i64 y.x.n, .slice bx y.x.args.length capy]) y.x) := fun X hX => ⟨_, rfl, ((ht.mono hB).keep hX).mono hX.size⟩
  have hbi := bytes_inj x.uid y.uid
  have hcs := Nd.sameB_cases x y
  clear hi hj hs ht hx1 hx2 hx3 hx4 hx5 hx6 hu1 hu2 hc1 hc2 hm1 hm2
  have HCS := Lib.hid hcs
  clear hcs
  have HL1 : Hid (x.ins.length = x.ins.length) := rfl
  rcases HCS.out with ⟨h1, h2, h3, h4, hr⟩ | ⟨hr, hc⟩
  · have q1 : (x.uid.toList == y.uid.toList) = true := by simpa using hbi.2 h1
    have q2 : (x.kind == y.kind) = true := by simpa using h2
    have q3 : (x.n == y.n) = true := by simpa using h3
    have H4 := Lib.hid h4
    have HR := Lib.hid hr
    clear h1 h2 h3 h4 hr hbi
    go_enter Tryz.func31, Tryz.ntmps31
    go_wp2_with fail
    generalize World.alloc (World.alloc w _) _ = W at *
    have HWZ := Lib.hid hwz
    have hwz2 : w.heap.size + 2 ≤ W.heap.size := by omega
    have x0 := hNX.cell 0
    have x1 := hNX.cell 1
    have x2 := hNX.cell 2
    have x3 := hNX.cell 3
    have x4 := hNX.cell 4
    have x5 := hNX.cell 5
    have x6 := hNX.cell 6
    have y0 := hNY.cell 0
    have y1 := hNY.cell 1
    have y2 := hNY.cell 2
    have y3 := hNY.cell 3
    have y4 := hNY.cell 4
    have y5 := hNY.cell 5
    have y6 := hNY.cell 6
    clear hwz
    go_wp2_with (first
      | (go_at_call 32; refine (EqualInt_c x.ins y.ins _ _ _ _ B _ (HI.out.below (hW.mono hB)) (HJ.out.below (hW.mono hB)) rfl rfl).mono ?_; rintro e w3 ⟨rfl, nq, rfl⟩; rw [H4.out])
      | (go_at_call 33; refine (Same_c x.x y.x _ _ _ _ (HX.out _ (below_drewN hW nq)) (HY.out _ (below_drewN hW nq)) (Nat.le_refl _)).mono ?_; rintro e w4 ⟨rfl, hb4⟩))
    go_ret
    exact ⟨ret_bool HR.out.symm, (below_drewN hW nq).trans (hb4.mono (by simp; omega))⟩
  · have HR := Lib.hid hr
    clear hr HCS
    rcases hc with h1 | ⟨h1, h2⟩ | ⟨h1, h2, h3⟩ | ⟨h1, h2, h3, h4⟩
    · have q1 : (x.uid.toList == y.uid.toList) = false := by simpa using fun h => h1 (hbi.1 h)
      clear h1 hbi hNX hNY hwz
      go_enter Tryz.func31, Tryz.ntmps31
      go_wp2_with fail
      go_ret
      exact ⟨ret_bool HR.out.symm, hW⟩
    · have q1 : (x.uid.toList == y.uid.toList) = true := by simpa using hbi.2 h1
      have q2 : (x.kind == y.kind) = false := by simpa using h2
      clear h1 h2 hbi hNX hNY hwz
      go_enter Tryz.func31, Tryz.ntmps31
      go_wp2_with fail
      go_ret
      exact ⟨ret_bool HR.out.symm, hW⟩
    · have q1 : (x.uid.toList == y.uid.toList) = true := by simpa using hbi.2 h1
      have q2 : (x.kind == y.kind) = true := by simpa using h2
      have q3 : (x.n == y.n) = false := by simpa using h3
      clear h1 h2 h3 hbi hNX hNY hwz
      go_enter Tryz.func31, Tryz.ntmps31
      go_wp2_with fail
      go_ret
      exact ⟨ret_bool HR.out.symm, hW⟩
    · have q1 : (x.uid.toList == y.uid.toList) = true := by simpa using hbi.2 h1
      have q2 : (x.kind == y.kind) = true := by simpa using h2
      have q3 : (x.n == y.n) = true := by simpa using h3
      have H4 := Lib.hid h4
      clear h1 h2 h3 h4 hbi hNX hNY hwz
      go_enter Tryz.func31, Tryz.ntmps31
      go_wp2_with (go_at_call 32; refine (EqualInt_c x.ins y.ins _ _ _ _ B _ (HI.out.below (hW.mono hB)) (HJ.out.below (hW.mono hB)) rfl rfl).mono ?_; rintro e w3 ⟨rfl, nq, rfl⟩; rw [H4.out])
      go_ret
      exact ⟨ret_bool HR.out.symm, below_drewN hW nq⟩

set_option maxHeartbeats 1000000 in
theorem eqNodes_c (l m : List Nd) (v u : Value) (B : Nat) (w : World) (hv : NodesAt w B l v) (hu : NodesAt w B m u) (hB : B ≤ w.heap.size) :
    Calls Tryz.prog 30 #[v, u, .func (.func 31) #[] #[]] w fun e w' => e = .returned (.bool (Nds.sameB l m)) ∧ Below w.heap.size w w' := by
  obtain ⟨a, cap, rfl, hcap, hmx⟩ := hv.slice
  obtain ⟨a', cap', rfl, hcap', hmx'⟩ := hu.slice
  by_cases hlen : l.length = m.length
  · obtain ⟨n, hn⟩ : ∃ n, l.length = n := ⟨_, rfl⟩
    have hn' : m.length = n := by omega
    have HV := Lib.hid hv
    have HU := Lib.hid hu
    have HN := Lib.hid hn
    have HN' := Lib.hid hn'
    have hnm : n ≤ 9223372036854775807 := by unfold maxLen at hmx; omega
    rw [hn, hn']
    clear hv hu hn hn' hlen
    go_enter Tryz.func30, Tryz.ntmps30
    go_wp2
    go_loopw [17] (fun q wr => ∃ j : Nat, q = .int .i64 j ∧ j ≤ n ∧ Below w.heap.size w wr ∧ Nds.sameB (l.drop j) (m.drop j) = Nds.sameB l m) (fun q _ => n - (intOf q).toNat)
    case atStart => exact ⟨0, rfl, Nat.zero_le _, Below.refl _ _, rfl⟩
    case round =>
      obtain ⟨j, rfl, hj, hBr, hr⟩ := hrel
      by_cases hlt : j < n
      · have hj1 : j < l.length := by have := HN.out; omega
        have hj2 : j < m.length := by have := HN'.out; omega
        obtain ⟨b, off, cp, e1, hb, hu, iv, sv, c0, c1, c2, c3, c4, c5, c6, hin⟩ := ((HV.out.mono hB).keep hBr).at_ j hj1
        obtain ⟨b', off', cp', e2, hb', hu', iv', sv', d0, d1, d2, d3, d4, d5, d6, hin'⟩ := ((HU.out.mono hB).keep hBr).at_ j hj2
        rw [HN.out] at e1
        rw [HN'.out] at e2
        simp only [Value.slice.injEq, true_and] at e1 e2
        obtain ⟨rfl, rfl⟩ := e1
        obtain ⟨rfl, rfl⟩ := e2
        obtain ⟨a2, cap2, rfl, _, _⟩ := hin.2.slice
        obtain ⟨a3, cap3, rfl, _, _⟩ := hin'.2.slice
        obtain ⟨_, ai, capi, rfl, _, _, _⟩ := id hin.1
        obtain ⟨_, bi, capj, rfl, _, _, _⟩ := id hin'.1
        rw [List.drop_eq_getElem_cons hj1, List.drop_eq_getElem_cons hj2] at hr
        simp only [Nds.sameB] at hr
        have hbw := Nat.lt_of_lt_of_le hb hBr.size
        have hbw' := Nat.lt_of_lt_of_le hb' hBr.size
        generalize l[j] = x at *
        generalize m[j] = y at *
        have HX : Hid (∀ X, Below wr.heap.size wr X → NdAt X X.heap.size (.agg #[.string x.uid, .int .u8 x.kind, .slice ai x.ins.length capi, .int .u8 x.x.op, .int .i64 x.x.n, .slice a2 x.x.args.length cap2, .int .i64 x.n]) x) :=
          fun X hX => ⟨_, _, rfl, (hin.keep (hX.mono hBr.size)).mono (Nat.le_trans hBr.size hX.size), hu⟩
        have HY : Hid (∀ X, Below wr.heap.size wr X → NdAt X X.heap.size (.agg #[.string y.uid, .int .u8 y.kind, .slice bi y.ins.length capj, .int .u8 y.x.op, .int .i64 y.x.n, .slice a3 y.x.args.length cap3, .int .i64 y.n]) y) :=
          fun X hX => ⟨_, _, rfl, (hin'.keep (hX.mono hBr.size)).mono (Nat.le_trans hBr.size hX.size), hu'⟩
        have HR := Lib.hid hr
        rename_i hx1 hx2 hx3 hx4 hx5 hx6 hx7 hx8 hx9 hx10
        clear hr hin hin' hu hu' hx1 hx2 hx3 hx4 hx5 hx6 hx7 hx8 hx9 hx10
        cases hs : x.sameB y
        all_goals
          have HS := Lib.hid hs
          clear hs
          go_wp2_with (go_at_call 31; refine (nsame_c x y _ _ _ _ (HX.out _ (((Below.refl _ _).alloc (Nat.le_refl _) _).alloc (by simp) _)) (HY.out _ (((Below.refl _ _).alloc (Nat.le_refl _) _).alloc (by simp) _)) (Nat.le_refl _)).mono ?_; rintro e w3 ⟨rfl, hb3⟩; rw [HS.out])
        · go_ret
          exact ⟨ret_bool (by rw [← HR.out, HS.out]; rfl), ((hBr.alloc hBr.size _).alloc (by have := hBr.size; simp; omega) _).trans (hb3.mono (by have := hBr.size; simp; omega))⟩
        · go_roundw
          case rel => exact ⟨j + 1, by go_num, by omega, ((hBr.alloc hBr.size _).alloc (by have := hBr.size; simp; omega) _).trans (hb3.mono (by have := hBr.size; simp; omega)), by rw [← HR.out, HS.out, Bool.true_and]⟩
          case measure => simp [intOf]; omega
      · rw [List.drop_of_length_le (by have := HN.out; omega), List.drop_of_length_le (by have := HN'.out; omega)] at hr
        have HR := Lib.hid hr
        clear hr
        go_wp2
        go_ret
        exact ⟨ret_bool (by rw [← HR.out]; rfl), hBr⟩
  · have hne : ((l.length : Int) != (m.length : Int)) = true := by rw [bne_iff_ne]; omega
    have HF := Lib.hid (Nds.sameB_len l m hlen)
    clear hlen hv hu
    go_enter Tryz.func30, Tryz.ntmps30
    go_wp2
    go_ret
    exact ⟨ret_bool HF.out.symm, Below.refl _ _⟩

set_option maxHeartbeats 1000000 in
theorem JSame_c (x y : Jb) (v u : Value) (B : Nat) (w : World) (hv : JbAt w B v x) (hu : JbAt w B u y) (hB : B ≤ w.heap.size) :
    Calls Tryz.prog 12 #[v, u] w fun e w' => e = .returned (.bool (x.sameB y)) ∧ Below w.heap.size w w' := by
  obtain ⟨sv, rfl, hs⟩ := hv
  obtain ⟨tv, rfl, ht⟩ := hu
  obtain ⟨a, cap, rfl, hcap, hmx⟩ := hs.slice
  obtain ⟨a', cap', rfl, hcap', hmx'⟩ := ht.slice
  have HS := Lib.hid hs
  have HT := Lib.hid ht
  have HE : Hid (x.sameB y = ((x.par == y.par) && Nds.sameB x.nodes y.nodes)) := rfl
  have hW := ((Below.refl w.heap.size w).alloc (Nat.le_refl _) (.cells #[.int .i64 x.par, .slice a x.nodes.length cap] 24)).alloc (by simp) (.cells #[.int .i64 y.par, .slice a' y.nodes.length cap'] 24)
  clear hs ht
  cases hp : (x.par == y.par)
  · have HP := Lib.hid hp
    go_enter Tryz.func12, Tryz.ntmps12
    go_wp2
    go_ret
    exact ⟨ret_bool (by rw [HE.out, HP.out]; rfl), hW⟩
  · have HP := Lib.hid hp
    go_enter Tryz.func12, Tryz.ntmps12
    go_wp2_with (go_at_call 30; refine (eqNodes_c x.nodes y.nodes _ _ B _ (HS.out.keep (hW.mono hB)) (HT.out.keep (hW.mono hB)) (by have := hW.size; omega)).mono ?_; rintro e w3 ⟨rfl, hb3⟩)
    go_ret
    exact ⟨ret_bool (by rw [HE.out, HP.out]; rfl), hW.trans (hb3.mono hW.size)⟩

end Go.Proofs.YtjbchkgkapccnaaGreatDoor
