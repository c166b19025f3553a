/-
  Walks: expr.Deep (its closure).
-/
import Derived.Test.YtfieoehchghiiaaE3
import Derived.Test.YtfieoehchghiiaaP8
import Derived.Laws.EntriesVeiled
namespace Go.Proofs.Ytfieoehchghiiaa
open Go.RowKit
set_option linter.unusedVariables false

def DeepC (h : Nat) : Prop := ∀ (x : Ex) (v : Value) (B : Nat) (w : World) (bD k : Nat) (i : Int), x.ht ≤ h → ExAt w B v x → i = (k : Int) → B ≤ w.heap.size → k ≤ 100 → bD < w.heap.size →
  w.cell? ⟨bD, 0, none⟩ = some (.func (.func 126) #[] #[.pointer (some ⟨bD, 0, none⟩)]) →
  Calls Try.prog 126 #[v, .int .i64 i, .pointer (some ⟨bD, 0, none⟩)] w fun e w' => e = .returned (.int .i64 (deepN k x)) ∧ Below w.heap.size w w'

set_option maxHeartbeats 1000000 in
theorem deep_step (h : Nat) (IH : Hid (∀ x : Ex, x.ht < h → ∀ (v : Value) (B : Nat) (w : World) (bD k : Nat) (i : Int), ExAt w B v x → i = (k : Int) → B ≤ w.heap.size → k ≤ 100 → bD < w.heap.size →
      w.cell? ⟨bD, 0, none⟩ = some (.func (.func 126) #[] #[.pointer (some ⟨bD, 0, none⟩)]) →
      Calls Try.prog 126 #[v, .int .i64 i, .pointer (some ⟨bD, 0, none⟩)] w fun e w' => e = .returned (.int .i64 (deepN k x)) ∧ Below w.heap.size w w')) : DeepC h := by
  intro x v B w bD k i hh hv hi hB hk hbD hD
  have HLT : Hid (∀ a ∈ x.args, a.ht < h) := fun a ha => by have := Ex.ht_args x a ha; omega
  have HE : Hid (∀ k', k = k' + 1 → deepN k x = x.args.foldl (fun n a => max n (deepN k' a)) 0 + 1) := fun k' e => by subst e; rfl
  have HE0 : Hid (k = 0 → deepN k x = 1) := fun e => by subst e; rfl
  obtain ⟨sv, rfl, hs⟩ := hv
  obtain ⟨a, cap, rfl, hcap, hmx⟩ := hs.slice
  have HS := Lib.hid hs
  have hlm : x.args.length ≤ 9223372036854775807 := by unfold maxLen at hmx; omega
  generalize x.op = o at *
  generalize x.n = n at *
  generalize x.args = l at *
  clear hs hh
  have HDD := Lib.hid hD
  clear hD
  go_enter Try.func126, Try.ntmps126
  go_wp2
  have hW := (Below.refl w.heap.size w).alloc (Nat.le_refl _) (.cells #[.int .u8 o, .int .i64 n, .slice a l.length cap] 35)
  generalize World.alloc w _ = W at *
  by_cases hk0 : 0 < k
  · obtain ⟨k', hk'⟩ : ∃ k', k = k' + 1 := ⟨k - 1, by omega⟩
    have HE2 := Lib.hid (HE.out k' hk')
    have HI := Lib.hid (show i = (k' : Int) + 1 by omega)
    have hip : 0 < i := by omega
    have hi100 : i ≤ 100 := by omega
    clear hi hk'
    go_loopw [6, 12] (fun s q wr => ∃ j m : Nat, q = .int .i64 j ∧ s = .int .i64 m ∧ j ≤ l.length ∧ m ≤ 200 ∧ Below w.heap.size w wr ∧ (l.drop j).foldl (fun n a => max n (deepN k' a)) m = l.foldl (fun n a => max n (deepN k' a)) 0) (fun _ q _ => l.length - (intOf q).toNat)
    case atStart => exact ⟨0, 0, rfl, rfl, Nat.zero_le _, by omega, hW, rfl⟩
    case round =>
      obtain ⟨j, m, rfl, rfl, hj, hm, hBr, hr⟩ := hrel
      by_cases hlt : j < l.length
      · obtain ⟨b, off, cp, sv, e1, hb, c0, c1, c2, hsub⟩ := ((HS.out.mono hB).keep hBr).at_ j hlt
        simp only [Value.slice.injEq, true_and] at e1
        obtain ⟨rfl, rfl⟩ := e1
        obtain ⟨a2, cap2, rfl, _, _⟩ := hsub.slice
        rw [List.drop_eq_getElem_cons hlt] at hr
        simp only [List.foldl_cons] at hr
        have hht := HLT.out _ (List.getElem_mem hlt)
        have hx : ∀ X, Below wr.heap.size wr X → ExAt X X.heap.size (.agg #[.int .u8 (l[j]'hlt).op, .int .i64 (l[j]'hlt).n, .slice a2 (l[j]'hlt).args.length cap2]) (l[j]'hlt) := fun X hX => ⟨_, rfl, (hsub.keep (hX.mono hBr.size)).mono (Nat.le_trans hBr.size hX.size)⟩
        have hdl := deepN_le k' (l[j]'hlt)
        have hk100 : k' ≤ 100 := by have := HI.out; omega
        generalize l[j] = y at *
        have HX := Lib.hid hx
        have HR := Lib.hid hr
        clear hr hx hsub
        have hbr := hBr.size
        have hD2 : (wr.alloc (.cells #[.int .u8 y.op, .int .i64 y.n, .slice a2 y.args.length cap2] 35)).cell? ⟨bD, 0, none⟩ = some (.func (.func 126) #[] #[.pointer (some ⟨bD, 0, none⟩)]) :=
          (((Below.refl wr.heap.size wr).alloc (Nat.le_refl _) _).cell (p := ⟨bD, 0, none⟩) (by show bD < _; omega)).trans ((hBr.cell (p := ⟨bD, 0, none⟩) hbD).trans HDD.out)
        have HD2 := Lib.hid hD2
        generalize hdd : deepN k' y = dd at *
        have HDE := Lib.hid hdd
        clear hdd
        go_wp2_with (go_at_call 126; refine (IH.out y hht _ _ _ bD k' _ (HX.out _ ((Below.refl _ _).alloc (Nat.le_refl _) _)) (by have := HI.out; omega) (Nat.le_refl _) (by have := HI.out; omega) (by simp; omega) HD2.out).mono ?_; rintro e w3 ⟨rfl, hb3⟩; rw [HDE.out])
        go_roundw
        case rel => exact ⟨j + 1, max m dd, by go_num, by congr 1; split <;> omega, by omega, by omega, (hBr.alloc hBr.size _).trans (hb3.mono (by simp; omega)), by rw [← HR.out]⟩
        case measure => simp [intOf]; omega
      · rw [List.drop_of_length_le (by omega)] at hr
        simp only [List.foldl_nil] at hr
        have HR := Lib.hid hr
        clear hr
        go_wp2
        go_ret
        exact ⟨ret_int (by rw [HE2.out, ← HR.out]; rfl), hBr⟩
  · have HE2 := Lib.hid (HE0.out (by omega))
    have hip : ¬ 0 < i := by omega
    clear hi
    go_loopw [6, 12] (fun s q wr => ∃ j : Nat, q = .int .i64 j ∧ s = .int .i64 0 ∧ j ≤ l.length ∧ Below w.heap.size w wr) (fun _ q _ => l.length - (intOf q).toNat)
    case atStart => exact ⟨0, rfl, rfl, Nat.zero_le _, hW⟩
    case round =>
      obtain ⟨j, rfl, rfl, hj, hBr⟩ := hrel
      by_cases hlt : j < l.length
      · obtain ⟨b, off, cp, sv, e1, hb, c0, c1, c2, hsub⟩ := ((HS.out.mono hB).keep hBr).at_ j hlt
        simp only [Value.slice.injEq, true_and] at e1
        obtain ⟨rfl, rfl⟩ := e1
        obtain ⟨a2, cap2, rfl, _, _⟩ := hsub.slice
        go_wp2
        go_roundw
        case rel => exact ⟨j + 1, by go_num, rfl, by omega, hBr.alloc hBr.size _⟩
        case measure => simp [intOf]; omega
      · go_wp2
        go_ret
        exact ⟨ret_int (by rw [HE2.out]; rfl), hBr⟩

theorem deep_all (h : Nat) : DeepC h := by
  induction h using Nat.strongRecOn with
  | ind h ih => exact deep_step h (fun x hx v B w bD k i hv hi hB hk hb hD => ih x.ht hx x v B w bD k i (Nat.le_refl _) hv hi hB hk hb hD)

set_option maxHeartbeats 400000 in
theorem Deep_c (x : Ex) (v : Value) (B : Nat) (w : World) (hv : ExAt w B v x) (hB : B ≤ w.heap.size) :
    Calls Try.prog 110 #[v] w fun e w' => e = .returned (.int .i64 (deepN 16 x)) ∧ Below w.heap.size w w' := by
  obtain ⟨sv, rfl, hs⟩ := hv
  obtain ⟨a, cap, rfl, hcap, hmx⟩ := hs.slice
  have HV : Hid (ExAt w B _ x) := ⟨_, rfl, hs⟩
  clear hs
  have hle := deepN_le 16 x
  generalize hd : deepN 16 x = d at *
  have HD := Lib.hid hd
  clear hd
  have hB1 := (((Below.refl w.heap.size w).alloc (Nat.le_refl _) (.cells #[.int .u8 x.op, .int .i64 x.n, .slice a x.args.length cap] 35)).alloc (by simp) (.cells #[.func (.func 126) #[] #[.pointer (some ⟨w.heap.size + 1, 0, none⟩)]] 112))
  go_enter Try.func110, Try.ntmps110
  go_wp2_with fail
  refine (deep_all x.ht x _ B _ (w.heap.size + 1) 16 _ (Nat.le_refl _) (HV.out.keep (hB1.mono hB)) (by omega) (by simp; omega) (by omega) (by simp) ?_).mono ?_
  · exact (Blk.new_at (w.alloc (.cells #[.int .u8 x.op, .int .i64 x.n, .slice a x.args.length cap] 35)) #[.func (.func 126) #[] #[.pointer (some ⟨w.heap.size + 1, 0, none⟩)]] 112 (k := w.heap.size + 1) (by simp)).cell 0
  rintro e w3 ⟨rfl, hb3⟩
  rw [HD.out]
  go_wp2_with fail
  go_ret
  exact ⟨ret_int (by first | rfl | (split <;> omega)), hB1.trans (hb3.mono (by simp; omega))⟩

end Go.Proofs.Ytfieoehchghiiaa
