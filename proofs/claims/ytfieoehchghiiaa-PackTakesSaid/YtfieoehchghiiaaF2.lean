/-
  Walks of the reference's expressions: deep, Deep, args, shaped, May.
-/
import Derived.Test.YtfieoehchghiiaaF1
import Derived.Test.YtfieoehchghiiaaP8
import Derived.Test.YtfieoehchghiiaaME
import Derived.Deep.DrawnRows
namespace Go.Proofs.Ytfieoehchghiiaa
open Go.RowKit
set_option linter.unusedVariables false

def RDeepC (h : Nat) : Prop := ∀ (x : Ex) (v : Value) (B : Nat) (w : World) (k : Nat) (i : Int), x.ht ≤ h → ExAt w B v x → i = (k : Int) + 1 → B ≤ w.heap.size → k ≤ 100 →
  Calls Try.prog 128 #[v, .int .i64 i] w fun e w' => e = .returned (.int .i64 (deepN k x)) ∧ Below w.heap.size w w'

set_option maxHeartbeats 1000000 in
theorem rdeep_step (h : Nat) (IH : Hid (∀ x : Ex, x.ht < h → ∀ (v : Value) (B : Nat) (w : World) (k : Nat) (i : Int), ExAt w B v x → i = (k : Int) + 1 → B ≤ w.heap.size → k ≤ 100 →
      Calls Try.prog 128 #[v, .int .i64 i] w fun e w' => e = .returned (.int .i64 (deepN k x)) ∧ Below w.heap.size w w')) : RDeepC h := by
  intro x v B w k i hh hv hi hB hk
  have HLT : Hid (∀ a ∈ x.args, a.ht < h) := fun a ha => by have := Ex.ht_args x a ha; omega
  have HE : Hid (∀ k', k = k' + 1 → deepN k x = x.args.foldl (fun n a => max n (deepN k' a)) 0 + 1) := fun k' e => by subst e; rfl
  have HE0 : Hid (k = 0 → deepN k x = 1) := fun e => by subst e; rfl
  obtain ⟨sv, rfl, hs⟩ := hv
  obtain ⟨a, cap, rfl, hcap, hmx⟩ := hs.slice
  have HS := Lib.hid hs
  have hlm : x.args.length ≤ 9223372036854775807 := by unfold maxLen at hmx; omega
  generalize x.op = o at *
  generalize x.n = n at *
  generalize x.args = l at *
  clear hs hh
  by_cases hk0 : 0 < k
  · obtain ⟨k', hk'⟩ : ∃ k', k = k' + 1 := ⟨k - 1, by omega⟩
    have HE2 := Lib.hid (HE.out k' hk')
    have HI := Lib.hid (show i = (k' : Int) + 1 + 1 by omega)
    have hip : ¬ i ≤ 1 := by omega
    have hi100 : i ≤ 101 := by omega
    have hi1 : 1 ≤ i := by omega
    clear hi hk'
    go_enter Try.func128, Try.ntmps128
    go_wp2
    have hW := (Below.refl w.heap.size w).alloc (Nat.le_refl _) (.cells #[.int .u8 o, .int .i64 n, .slice a l.length cap] 35)
    have hbx := Blk.new w #[.int .u8 o, .int .i64 n, .slice a l.length cap] 35
    have hz : w.heap.size < (w.alloc (.cells #[.int .u8 o, .int .i64 n, .slice a l.length cap] 35)).heap.size := hbx.lt
    generalize World.alloc w _ = W at *
    go_loopw [5, 6] (fun s q wr => ∃ j m : Nat, q = .int .i64 j ∧ s = .int .i64 m ∧ j ≤ l.length ∧ m ≤ 200 ∧ Below W.heap.size W wr ∧ (l.drop j).foldl (fun n a => max n (deepN k' a)) m = l.foldl (fun n a => max n (deepN k' a)) 0) (fun _ q _ => l.length - (intOf q).toNat)
    case atStart => exact ⟨0, 0, rfl, rfl, Nat.zero_le _, by omega, Below.refl _ _, rfl⟩
    case round =>
      obtain ⟨j, m, rfl, rfl, hj, hm, hBr0, hr⟩ := hrel
      have hBr := hW.trans (hBr0.mono (by omega))
      have hbr2 := hbx.below hBr0 hz
      have p2 := hbr2.cell 2
      by_cases hlt : j < l.length
      · obtain ⟨b, off, cp, sv, e1, hb, c0, c1, c2, hsub⟩ := ((HS.out.mono hB).keep hBr).at_ j hlt
        simp only [Value.slice.injEq, true_and] at e1
        obtain ⟨rfl, rfl⟩ := e1
        obtain ⟨a2, cap2, rfl, _, _⟩ := hsub.slice
        rw [List.drop_eq_getElem_cons hlt] at hr
        simp only [List.foldl_cons] at hr
        have hht := HLT.out _ (List.getElem_mem hlt)
        have hdl := deepN_le k' (l[j]'hlt)
        have hk100 : k' ≤ 100 := by have := HI.out; omega
        generalize l[j] = y at *
        have HX : Hid (ExAt wr wr.heap.size (.agg #[.int .u8 y.op, .int .i64 y.n, .slice a2 y.args.length cap2]) y) := ⟨_, rfl, hsub.mono hBr.size⟩
        have HR := Lib.hid hr
        clear hr hsub
        have hbr := hBr.size
        generalize hdd : deepN k' y = dd at *
        have HDE := Lib.hid hdd
        clear hdd
        by_cases hgt : (m : Int) < (dd : Int)
        · go_wp2_with (go_at_call 128; refine (IH.out y hht _ _ _ k' _ HX.out (by have := HI.out; omega) (Nat.le_refl _) hk100).mono ?_; rintro e w3 ⟨rfl, hb3⟩; rw [HDE.out])
          go_roundw
          case rel => exact ⟨j + 1, dd, by go_num, rfl, by omega, by omega, hBr0.trans (hb3.mono hBr0.size), by rw [← HR.out, Nat.max_eq_right (by omega)]⟩
          case measure => simp [intOf]; omega
        · go_wp2_with (go_at_call 128; refine (IH.out y hht _ _ _ k' _ HX.out (by have := HI.out; omega) (Nat.le_refl _) hk100).mono ?_; rintro e w3 ⟨rfl, hb3⟩; rw [HDE.out])
          go_roundw
          case rel => exact ⟨j + 1, m, by go_num, rfl, by omega, by omega, hBr0.trans (hb3.mono hBr0.size), by rw [← HR.out, Nat.max_eq_left (by omega)]⟩
          case measure => simp [intOf]; omega
      · rw [List.drop_of_length_le (by omega)] at hr
        simp only [List.foldl_nil] at hr
        have HR := Lib.hid hr
        clear hr
        go_wp2
        go_ret
        exact ⟨ret_int (by rw [HE2.out, ← HR.out]; rfl), hBr⟩
  · have HE2 := Lib.hid (HE0.out (by omega))
    have hi1 : i = 1 := by omega
    subst hi1
    clear hi
    go_enter Try.func128, Try.ntmps128
    go_wp2
    go_ret
    exact ⟨ret_int (by rw [HE2.out]; rfl), (Below.refl _ _).alloc (Nat.le_refl _) _⟩

theorem rdeep_all (h : Nat) : RDeepC h := by
  induction h using Nat.strongRecOn with
  | ind h ih => exact rdeep_step h (fun x hx v B w k i hv hi hB hk => ih x.ht hx x v B w k i (Nat.le_refl _) hv hi hB hk)

set_option maxHeartbeats 400000 in
theorem rDeep_c (x : Ex) (v : Value) (B : Nat) (w : World) (hv : ExAt w B v x) (hB : B ≤ w.heap.size) :
    Calls Try.prog 113 #[v] w fun e w' => e = .returned (.int .i64 (deepN 16 x)) ∧ Below w.heap.size w w' := by
  obtain ⟨sv, rfl, hs⟩ := hv
  obtain ⟨a, cap, rfl, hcap, hmx⟩ := hs.slice
  have HV : Hid (ExAt w B _ x) := ⟨_, rfl, hs⟩
  clear hs
  go_enter Try.func113, Try.ntmps113
  go_wp2_with (go_at_call 128; refine (rdeep_all x.ht x _ B _ 16 _ (Nat.le_refl _) (HV.out.keep ((Below.refl _ _).alloc hB _)) (by omega) (by simp; omega) (by omega)).mono ?_; rintro e w3 ⟨rfl, hb3⟩)
  go_ret
  exact ⟨rfl, ((Below.refl _ _).alloc (Nat.le_refl _) _).trans (hb3.mono (by simp))⟩

set_option maxHeartbeats 2000000 in
theorem rargs_c (op : Int) (h0 : 0 ≤ op) (h1 : op ≤ 18) (w : World) : Calls Try.prog 129 #[.int .u8 op] w fun e w' => e = .returned (.int .i64 (manyN op)) ∧ Below w.heap.size w w' := by
  obtain rfl | rfl | rfl | rfl | rfl | rfl | rfl | rfl | rfl | rfl | rfl | rfl | rfl | rfl | rfl | rfl | rfl | rfl | rfl : op = 0 ∨ op = 1 ∨ op = 2 ∨ op = 3 ∨ op = 4 ∨ op = 5 ∨ op = 6 ∨ op = 7 ∨ op = 8 ∨ op = 9 ∨ op = 10 ∨ op = 11 ∨ op = 12 ∨ op = 13 ∨ op = 14 ∨ op = 15 ∨ op = 16 ∨ op = 17 ∨ op = 18 := by omega
  all_goals
    go_enter Try.func129, Try.ntmps129
    go_wp2
    go_ret
    exact ⟨ret_int (by decide), (Below.refl _ _).alloc (Nat.le_refl _) _⟩

/-- As the reference has it: shapes, k levels down. -/
def shapedN : Nat → Ex → Bool
  | 0, _ => true
  | k + 1, x => shapeB x && x.args.all (shapedN k)

theorem foldl_max_lt (f : Ex → Nat) : ∀ (l : List Ex) (m k : Nat), m ≤ k → (∀ a ∈ l, f a ≤ k) → l.foldl (fun n a => max n (f a)) m ≤ k
  | [], m, k, h, _ => h
  | x :: l, m, k, h, ha => foldl_max_lt f l _ k (Nat.max_le.2 ⟨h, ha x (by simp)⟩) fun a hm => ha a (by simp [hm])

theorem mayB_shaped : ∀ (k : Nat) (x : Ex), mayB k x = (decide (deepN k x ≤ k) && shapedN (k + 1) x)
  | 0, x => by simp [mayB, deepN]
  | k + 1, x => by
    have ih : ∀ a, mayB k a = (decide (deepN k a ≤ k) && shapedN (k + 1) a) := mayB_shaped k
    have hd : decide (deepN (k + 1) x ≤ k + 1) = x.args.all (fun a => decide (deepN k a ≤ k)) := by
      rw [Bool.eq_iff_iff, decide_eq_true_eq, List.all_eq_true]
      simp only [deepN, decide_eq_true_eq]
      constructor
      · intro h a ha
        have hx : ∀ (l : List Ex) (m : Nat), l.foldl (fun n a => max n (deepN k a)) m ≤ k → m ≤ k ∧ ∀ a ∈ l, deepN k a ≤ k := by
          intro l
          induction l with
          | nil => exact fun m h => ⟨h, by simp⟩
          | cons y l ih =>
            intro m h
            obtain ⟨h1, h2⟩ := ih _ h
            have h1' : max m (deepN k y) ≤ k := h1
            refine ⟨by have := Nat.le_max_left m (deepN k y); omega, fun a ha => ?_⟩
            rcases List.mem_cons.1 ha with rfl | ha
            · have := Nat.le_max_right m (deepN k a); omega
            · exact h2 a ha
        exact (hx x.args 0 (by omega)).2 a ha
      · intro h
        have := foldl_max_lt (deepN k) x.args 0 k (Nat.zero_le _) h
        omega
    have hall : x.args.all (mayB k) = (x.args.all (fun a => decide (deepN k a ≤ k)) && x.args.all (shapedN (k + 1))) := by
      clear hd
      induction x.args with
      | nil => rfl
      | cons a l ihl => simp only [List.all_cons]; rw [ihl, ih a]; cases decide (deepN k a ≤ k) <;> cases shapedN (k + 1) a <;> simp
    have e : shapedN (k + 1 + 1) x = (shapeB x && x.args.all (shapedN (k + 1))) := rfl
    rw [hd, e]
    simp only [mayB]
    rw [hall]
    cases shapeB x <;> simp

end Go.Proofs.Ytfieoehchghiiaa
