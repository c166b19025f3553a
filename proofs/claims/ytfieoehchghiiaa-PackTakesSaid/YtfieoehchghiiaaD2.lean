/-
  Walks: ref12.Parts, ref12.typed, ref12.may.
-/
import Derived.Test.YtfieoehchghiiaaMJ
import Derived.Test.YtfieoehchghiiaaQ8
import Derived.Test.YtfieoehchghiiaaF1
import Derived.Test.YtfieoehchghiiaaR1
namespace Go.Proofs.Ytfieoehchghiiaa
open Go.RowKit
set_option linter.unusedVariables false
set_option linter.unusedSimpArgs false

mutual
/-- How many expressions there are, in all. -/
def Ex.tot : Ex → Nat
  | .mk _ _ l => Exs.tot l + 1
def Exs.tot : List Ex → Nat
  | [] => 0
  | x :: l => x.tot + Exs.tot l
end
theorem Ex.tot_eq (x : Ex) : x.tot = Exs.tot x.args + 1 := by obtain ⟨o, n, l⟩ := x; rfl
mutual
theorem Ex.count_tot : ∀ (x : Ex) (left : Nat), x.count left = left - x.tot
  | .mk o n l, left => by
    simp only [Ex.count, Ex.tot]
    by_cases h : 0 < left
    · rw [if_pos h, Exs.count_tot l (left - 1)]; omega
    · rw [if_neg h]; omega
theorem Exs.count_tot : ∀ (l : List Ex) (left : Nat), Exs.count l left = left - Exs.tot l
  | [], left => by simp [Exs.count, Exs.tot]
  | x :: l, left => by simp only [Exs.count, Exs.tot]; rw [Ex.count_tot x left, Exs.count_tot l _]; omega
end
def partsSum : List Nd → Nat
  | [] => 0
  | d :: l => min d.x.tot 1001 + partsSum l
def totSum : List Nd → Nat
  | [] => 0
  | d :: l => d.x.tot + totSum l
theorem countGo_tot : ∀ (l : List Nd) (left : Nat), countGo l left = left - totSum l
  | [], left => by simp [countGo, totSum]
  | d :: l, left => by simp only [countGo, totSum]; rw [Ex.count_tot, countGo_tot l _]; omega
theorem partsSum_tot : ∀ l : List Nd, (1000 < partsSum l ↔ 1000 < totSum l) ∧ (partsSum l ≤ 1000 → partsSum l = totSum l)
  | [] => by simp [partsSum, totSum]
  | d :: l => by
    have ih := partsSum_tot l
    simp only [partsSum, totSum]
    omega
theorem parts_iff (j : Jb) : 1000 < j.parts ↔ 1000 < partsSum j.nodes := by
  unfold Jb.parts
  rw [countGo_tot, (partsSum_tot j.nodes).1]
  omega
theorem partsSum_take (l : List Nd) (k : Nat) (hk : k < l.length) : partsSum (l.take (k + 1)) = partsSum (l.take k) + min (l[k]'hk).x.tot 1001 := by
  have e : ∀ a b : List Nd, partsSum (a ++ b) = partsSum a + partsSum b := by
    intro a b
    induction a with
    | nil => simp [partsSum]
    | cons d a ih => simp only [List.cons_append, partsSum, ih]; omega
  rw [List.take_succ_eq_append_getElem hk, e]
  simp [partsSum]
theorem partsSum_le : ∀ l : List Nd, partsSum l ≤ 1001 * l.length
  | [] => by simp [partsSum]
  | d :: l => by have := partsSum_le l; simp only [partsSum, List.length_cons]; omega

def PartsC (h : Nat) : Prop := ∀ (x : Ex) (v : Value) (B : Nat) (w : World) (most : Nat), x.ht ≤ h → ExAt w B v x → B ≤ w.heap.size → 1 ≤ most → most ≤ 2000 →
  Calls Try.prog 83 #[v, .int .i64 (most : Int)] w fun e w' => e = .returned (.int .i64 ((min x.tot most : Nat) : Int)) ∧ Below w.heap.size w w'

set_option maxHeartbeats 1000000 in
theorem parts_step (h : Nat) (IH : Hid (∀ x : Ex, x.ht < h → ∀ (v : Value) (B : Nat) (w : World) (most : Nat), ExAt w B v x → B ≤ w.heap.size → 1 ≤ most → most ≤ 2000 →
      Calls Try.prog 83 #[v, .int .i64 (most : Int)] w fun e w' => e = .returned (.int .i64 ((min x.tot most : Nat) : Int)) ∧ Below w.heap.size w w')) : PartsC h := by
  intro x v B w most hh hv hB hm1 hm2
  have HLT : Hid (∀ a ∈ x.args, a.ht < h) := fun a ha => by have := Ex.ht_args x a ha; omega
  have HE := Lib.hid (Ex.tot_eq x)
  obtain ⟨sv, rfl, hs⟩ := hv
  obtain ⟨a, cap, rfl, hcap, hmx⟩ := hs.slice
  have HS := Lib.hid hs
  have hlm : x.args.length ≤ 9223372036854775807 := by unfold maxLen at hmx; omega
  generalize x.tot = T at *
  generalize x.op = o at *
  generalize x.n = n at *
  generalize x.args = l at *
  clear hs hh
  have hN0 := Blk.new w #[.int .u8 o, .int .i64 n, .slice a l.length cap] 35
  have hW := (Below.refl w.heap.size w).alloc (Nat.le_refl _) (.cells #[.int .u8 o, .int .i64 n, .slice a l.length cap] 35)
  go_enter Try.func83, Try.ntmps83
  go_wp2_with fail
  generalize World.alloc w _ = W at *
  go_loopw [5, 6] (fun s q wr => ∃ j m : Nat, q = .int .i64 (j : Int) ∧ s = .int .i64 (m : Int) ∧ j ≤ l.length ∧ 1 ≤ m ∧ m ≤ most ∧ Below w.heap.size w wr ∧ Blk wr w.heap.size 35 #[.int .u8 o, .int .i64 n, .slice a l.length cap] ∧ min (m + Exs.tot (l.drop j)) most = min T most) (fun _ q _ => l.length - (intOf q).toNat)
  case atStart => exact ⟨0, 1, rfl, rfl, Nat.zero_le _, Nat.le_refl _, hm1, hW, hN0, by rw [HE.out, List.drop_zero]; omega⟩
  case round =>
    obtain ⟨j, m, rfl, rfl, hj, h1m, hmm, hBr, hN, hr⟩ := hrel
    have c2 := hN.cell 2
    by_cases hlt : j < l.length
    · have hd1 : decide ((j : Int) < (l.length : Int)) = true := decide_eq_true (by omega)
      by_cases hlm2 : m < most
      · have hd2 : decide ((m : Int) < (most : Int)) = true := decide_eq_true (by omega)
        obtain ⟨b, off, cp, sv, e1, hb, c0, c1, c3, hsub⟩ := ((HS.out.mono hB).keep hBr).at_ j hlt
        simp only [Value.slice.injEq, true_and] at e1
        obtain ⟨rfl, rfl⟩ := e1
        obtain ⟨a2, cap2, rfl, _, _⟩ := hsub.slice
        rw [List.drop_eq_getElem_cons hlt] at hr
        simp only [Exs.tot] at hr
        have hht := HLT.out _ (List.getElem_mem hlt)
        have HX : Hid (ExAt wr w.heap.size (.agg #[.int .u8 (l[j]'hlt).op, .int .i64 (l[j]'hlt).n, .slice a2 (l[j]'hlt).args.length cap2]) (l[j]'hlt)) := ⟨_, rfl, hsub⟩
        generalize l[j] = y at *
        have HR := Lib.hid hr
        have hms : ((most - m : Nat) : Int) = (most : Int) - (m : Int) := by omega
        have HC := Lib.hid (IH.out y hht _ w.heap.size wr (most - m) HX.out hBr.size (by omega) (by omega))
        rw [hms] at HC
        rename_i hx1 hx2
        clear hr hx1 hx2 hsub hms
        go_wp2_with (go_at_call 83; refine HC.out.mono ?_; rintro e w3 ⟨rfl, hb3⟩)
        go_roundw
        case rel =>
          refine ⟨j + 1, m + min y.tot (most - m), by go_num, by go_num, by omega, by omega, by omega, hBr.trans (hb3.mono hBr.size), hN.below hb3 hN.lt, ?_⟩
          rw [← HR.out]; omega
        case measure => simp [intOf]; omega
      · have hd2 : decide ((m : Int) < (most : Int)) = false := decide_eq_false (by omega)
        go_wp2_with fail
        go_ret
        exact ⟨ret_int (by omega), hBr⟩
    · have hd1 : decide ((j : Int) < (l.length : Int)) = false := decide_eq_false (by omega)
      rw [List.drop_of_length_le (by omega)] at hr
      simp only [Exs.tot, Nat.add_zero] at hr
      go_wp2_with fail
      go_ret
      exact ⟨ret_int (by omega), hBr⟩
theorem parts_all (h : Nat) : PartsC h := by
  induction h using Nat.strongRecOn with
  | ind h ih => exact parts_step h (fun x hx v B w most hv hB h1 h2 => ih x.ht hx x v B w most (Nat.le_refl _) hv hB h1 h2)
theorem rParts_c (x : Ex) (v : Value) (B : Nat) (w : World) (hv : ExAt w B v x) (hB : B ≤ w.heap.size) :
    Calls Try.prog 83 #[v, .int .i64 1001] w fun e w' => e = .returned (.int .i64 ((min x.tot 1001 : Nat) : Int)) ∧ Below w.heap.size w w' :=
  parts_all x.ht x v B w 1001 (Nat.le_refl _) hv hB (by omega) (by omega)

set_option maxHeartbeats 1000000 in
theorem rtyped_c (x : Ex) (hok : x.ok) (acc : Bool) (ty : Int) (v : Value) (B : Nat) (w : World) (hv : ExAt w B v x) (hB : B ≤ w.heap.size) :
    Calls Try.prog 106 #[v, .bool acc, .int .u8 ty] w fun e w' => e = .returned (.bool (x.isB acc ty)) ∧ Below w.heap.size w w' := by
  have HV := Lib.hid hv
  have HI : Hid (x.isB acc ty = decide ((x.typ acc).2 = 0 ∧ (x.typ acc).1 = ty)) := rfl
  obtain ⟨sv, rfl, hs⟩ := hv
  obtain ⟨a, cap, rfl, _, _⟩ := hs.slice
  have HC : Hid (∀ W, Below w.heap.size w W → Calls Try.prog 69 #[.agg #[.int .u8 x.op, .int .i64 x.n, .slice a x.args.length cap], .bool acc] W fun e w' => e = .returned (.tuple #[.int .u8 (x.typ acc).1, .int .i64 (x.typ acc).2]) ∧ Below W.heap.size W w') := fun W h => rOf_c x hok acc _ B W (HV.out.keep (h.mono hB)) (Nat.le_trans hB h.size)
  generalize x.op = o at *
  generalize x.n = n at *
  generalize x.args.length = ll at *
  generalize x.isB acc ty = r at *
  generalize x.typ acc = p at *
  obtain ⟨p1, p2⟩ := p
  dsimp only at HI HC
  clear hs HV
  have hW := (Below.refl w.heap.size w).alloc (Nat.le_refl _) (.cells #[.int .u8 o, .int .i64 n, .slice a ll cap] 35)
  by_cases h2 : p2 = 0
  · have hb2 : (p2 == 0) = true := by simpa using h2
    have HR : Hid (r = (p1 == ty)) := by
      show _ = _
      rw [HI.out]
      simp [h2]
      rfl
    clear HI h2
    go_enter Try.func106, Try.ntmps106
    go_wp2_with (go_at_call 69; refine (HC.out _ hW).mono ?_; rintro e w1 ⟨rfl, hb1⟩)
    go_ret
    exact ⟨ret_bool HR.out.symm, hW.trans (hb1.mono hW.size)⟩
  · have hb2 : (p2 == 0) = false := by simpa using h2
    have HR : Hid (r = false) := by
      show _ = _
      rw [HI.out]
      simp [h2]
    clear HI h2
    go_enter Try.func106, Try.ntmps106
    go_wp2_with (go_at_call 69; refine (HC.out _ hW).mono ?_; rintro e w1 ⟨rfl, hb1⟩)
    go_ret
    exact ⟨ret_bool HR.out.symm, hW.trans (hb1.mono hW.size)⟩

end Go.Proofs.Ytfieoehchghiiaa
