/-
  Walks of the reference's expressions: Same.
-/
import Derived.Test.YtfieoehchghiiaaME
namespace Go.Proofs.Ytfieoehchghiiaa
open Go.RowKit
set_option linter.unusedVariables false

def RSameC (h : Nat) : Prop := ∀ (x y : Ex) (v u : Value) (B : Nat) (w : World), x.ht ≤ h → ExAt w B v x → ExAt w B u y → B ≤ w.heap.size →
  Calls Try.prog 64 #[v, u] w fun e w' => e = .returned (.bool (x.sameB y)) ∧ Below w.heap.size w w'

set_option maxHeartbeats 1000000 in
set_option maxRecDepth 100000 in
theorem rsame_step (h : Nat) (IH : Hid (∀ x y : Ex, x.ht < h → ∀ (v u : Value) (B : Nat) (w : World), ExAt w B v x → ExAt w B u y → B ≤ w.heap.size →
      Calls Try.prog 64 #[v, u] w fun e w' => e = .returned (.bool (x.sameB y)) ∧ Below w.heap.size w w')) : RSameC h := by
  intro x y v u B w hh hv hu hB
  have HLT : Hid (∀ a ∈ x.args, a.ht < h) := fun a ha => by have := Ex.ht_args x a ha; omega
  have HE := Lib.hid (Ex.sameB_eq x y)
  obtain ⟨sv, rfl, hs⟩ := hv
  obtain ⟨su, rfl, ht⟩ := hu
  obtain ⟨a, cap, rfl, hcap, hmx⟩ := hs.slice
  obtain ⟨a', cap', rfl, hcap', hmx'⟩ := ht.slice
  have HS := Lib.hid hs
  have HT := Lib.hid ht
  generalize x.op = o at *
  generalize x.n = n at *
  generalize y.op = o' at *
  generalize y.n = n' at *
  generalize x.args = l at *
  generalize y.args = m at *
  clear hs ht hh
  have hlm : l.length ≤ 9223372036854775807 := by unfold maxLen at hmx; omega
  by_cases h1 : o = o'
  · by_cases h2 : n = n'
    · by_cases h3 : l.length = m.length
      · have hq1 : (o != o') = false := by simpa using h1
        have hq2 : (n != n') = false := by simpa using h2
        have HE2 : Hid (x.sameB y = Exs.sameB l m) := by show _ = _; rw [HE.out, decide_eq_true h1, decide_eq_true h2]; rfl
        obtain ⟨k, hk⟩ : ∃ k, l.length = k := ⟨_, rfl⟩
        have hk' : m.length = k := by omega
        rw [hk] at hlm
        have HK := Lib.hid hk
        have HK' := Lib.hid hk'
        rw [hk, hk']
        clear h1 h2 HE hk hk' h3
        go_enter Try.func64, Try.ntmps64
        go_wp2
        have hW := ((Below.refl w.heap.size w).alloc (Nat.le_refl _) (.cells #[.int .u8 o, .int .i64 n, .slice a k cap] 35)).alloc (by simp) (.cells #[.int .u8 o', .int .i64 n', .slice a' k cap'] 35)
        have hb1 := (Blk.new w #[.int .u8 o, .int .i64 n, .slice a k cap] 35).alloc (.cells #[.int .u8 o', .int .i64 n', .slice a' k cap'] 35)
        have hb2 := Blk.new_at (w.alloc (.cells #[.int .u8 o, .int .i64 n, .slice a k cap] 35)) #[.int .u8 o', .int .i64 n', .slice a' k cap'] 35 (k := w.heap.size + 1) (by simp)
        have hsz : ((w.alloc (.cells #[.int .u8 o, .int .i64 n, .slice a k cap] 35)).alloc (.cells #[.int .u8 o', .int .i64 n', .slice a' k cap'] 35)).heap.size = w.heap.size + 2 := by simp
        generalize World.alloc (World.alloc w _) _ = W at *
        have HSZ := Lib.hid hsz
        have hsz1 : w.heap.size + 2 ≤ W.heap.size := by omega
        clear hsz
        go_loopw [5] (fun q wr => ∃ j : Nat, q = .int .i64 j ∧ j ≤ k ∧ Below W.heap.size W wr ∧ Exs.sameB (l.drop j) (m.drop j) = Exs.sameB l m) (fun q _ => k - (intOf q).toNat)
        case atStart => exact ⟨0, rfl, Nat.zero_le _, Below.refl _ _, rfl⟩
        case round =>
          obtain ⟨j, rfl, hj, hBr, hr⟩ := hrel
          have hbr1 := hb1.below hBr hb1.lt
          have hbr2 := hb2.below hBr hb2.lt
          have p2 := hbr1.cell 2
          have q2 := hbr2.cell 2
          by_cases hlt : j < k
          · have hj1 : j < l.length := by have := HK.out; omega
            have hj2 : j < m.length := by have := HK'.out; omega
            have hBw := hW.trans (hBr.mono (by omega))
            obtain ⟨b, off, cp, sv, e1, hb, c0, c1, c2, hsub⟩ := ((HS.out.mono hB).keep hBw).at_ j hj1
            obtain ⟨b', off', cp', sv', e2, hb', d0, d1, d2, hsub'⟩ := ((HT.out.mono hB).keep hBw).at_ j hj2
            rw [HK.out] at e1
            rw [HK'.out] at e2
            simp only [Value.slice.injEq, true_and] at e1 e2
            obtain ⟨rfl, rfl⟩ := e1
            obtain ⟨rfl, rfl⟩ := e2
            obtain ⟨a2, cap2, rfl, _, _⟩ := hsub.slice
            obtain ⟨a3, cap3, rfl, _, _⟩ := hsub'.slice
            rw [List.drop_eq_getElem_cons hj1, List.drop_eq_getElem_cons hj2] at hr
            simp only [Exs.sameB] at hr
            have hht := HLT.out _ (List.getElem_mem hj1)
            generalize l[j] = x' at *
            generalize m[j] = y' at *
            have HX : Hid (ExAt wr w.heap.size (.agg #[.int .u8 x'.op, .int .i64 x'.n, .slice a2 x'.args.length cap2]) x') := ⟨_, rfl, hsub⟩
            have HY : Hid (ExAt wr w.heap.size (.agg #[.int .u8 y'.op, .int .i64 y'.n, .slice a3 y'.args.length cap3]) y') := ⟨_, rfl, hsub'⟩
            have HR := Lib.hid hr
            clear hr hsub hsub'
            go_wp2
            go_still_tail 10, (by kernel_rfl)
            cases hs : x'.sameB y'
            all_goals
              have HSB := Lib.hid hs
              clear hs
              go_wp2_with (go_at_call 64; refine (IH.out x' y' hht _ _ w.heap.size _ (HX.out.keep (Below.refl _ wr).drew) (HY.out.keep (Below.refl _ wr).drew) (by have := hBr.size; first | omega | (simp; omega))).mono ?_; rintro e w3 ⟨rfl, hb3⟩; rw [HSB.out])
            · go_ret
              exact ⟨ret_bool (by rw [HE2.out, ← HR.out, HSB.out]; rfl), hBw.drew.trans (hb3.mono hBw.size)⟩
            · go_roundw
              case rel => exact ⟨j + 1, by go_num, by omega, hBr.drew.trans (hb3.mono hBr.size), by rw [← HR.out, HSB.out, Bool.true_and]⟩
              case measure => simp [intOf]; omega
          · rw [List.drop_of_length_le (by have := HK.out; omega), List.drop_of_length_le (by have := HK'.out; omega)] at hr
            have HR := Lib.hid hr
            clear hr
            go_wp2
            go_ret
            exact ⟨ret_bool (by rw [HE2.out, ← HR.out]; rfl), hW.trans (hBr.mono (by omega))⟩
      · have hq1 : (o != o') = false := by simpa using h1
        have hq2 : (n != n') = false := by simpa using h2
        have hq3 : ((l.length : Int) != (m.length : Int)) = true := by rw [bne_iff_ne]; omega
        have HE2 : Hid (x.sameB y = false) := by show _ = _; rw [HE.out, Exs.sameB_len l m h3, Bool.and_false, Bool.and_false]
        clear h1 h2 h3 HE
        go_enter Try.func64, Try.ntmps64
        go_wp2
        go_ret
        exact ⟨ret_bool HE2.out.symm, ((Below.refl _ _).alloc (Nat.le_refl _) _).alloc (by simp) _⟩
    · have hq1 : (o != o') = false := by simpa using h1
      have hq2 : (n != n') = true := by simpa using h2
      have HE2 : Hid (x.sameB y = false) := by show _ = _; rw [HE.out, decide_eq_false h2, Bool.false_and, Bool.and_false]
      clear h1 h2 HE
      go_enter Try.func64, Try.ntmps64
      go_wp2
      go_ret
      exact ⟨ret_bool HE2.out.symm, ((Below.refl _ _).alloc (Nat.le_refl _) _).alloc (by simp) _⟩
  · have hq1 : (o != o') = true := by simpa using h1
    have HE2 : Hid (x.sameB y = false) := by show _ = _; rw [HE.out, decide_eq_false h1, Bool.false_and]
    clear h1 HE
    go_enter Try.func64, Try.ntmps64
    go_wp2
    go_ret
    exact ⟨ret_bool HE2.out.symm, ((Below.refl _ _).alloc (Nat.le_refl _) _).alloc (by simp) _⟩

theorem rsame_all (h : Nat) : RSameC h := by
  induction h using Nat.strongRecOn with
  | ind h ih => exact rsame_step h (fun x y hx v u B w hv hu hB => ih x.ht hx x y v u B w (Nat.le_refl _) hv hu hB)
theorem rSame_c (x y : Ex) (v u : Value) (B : Nat) (w : World) (hv : ExAt w B v x) (hu : ExAt w B u y) (hB : B ≤ w.heap.size) :
    Calls Try.prog 64 #[v, u] w fun e w' => e = .returned (.bool (x.sameB y)) ∧ Below w.heap.size w w' := rsame_all x.ht x y v u B w (Nat.le_refl _) hv hu hB

end Go.Proofs.Ytfieoehchghiiaa
