/-
  The walk of pack.put.
-/
import Derived.Test.YtfieoehchghiiaaC0
import Derived.Deep.RegionHeld3
namespace Go.Proofs.Ytfieoehchghiiaa
open Go.RowKit
set_option linter.unusedVariables false

def bstr (l : List UInt8) : ByteArray := ⟨l.toArray⟩
theorem bstr_app (l m : List UInt8) : bstr l ++ bstr m = bstr (l ++ m) := by
  apply ByteArray.ext
  rw [ByteArray.data_append]
  unfold bstr
  simp
theorem bstr_size (l : List UInt8) : (bstr l).size = l.length := by show l.toArray.size = _; simp

def PutExC (h : Nat) : Prop := ∀ (x : Ex) (v : Value) (B : Nat) (w : World), x.ht ≤ h → x.ok → x.by.length ≤ 1000000 → ExAt w B v x → B ≤ w.heap.size →
  Calls Try.prog 53 #[v] w fun e w' => e = .returned (.string (bstr x.by)) ∧ Below w.heap.size w w'

set_option maxHeartbeats 4000000 in
theorem putEx_step (h : Nat) (IH : Hid (∀ x : Ex, x.ht < h → ∀ (v : Value) (B : Nat) (w : World), x.ok → x.by.length ≤ 1000000 → ExAt w B v x → B ≤ w.heap.size →
      Calls Try.prog 53 #[v] w fun e w' => e = .returned (.string (bstr x.by)) ∧ Below w.heap.size w w')) : PutExC h := by
  intro x v B w hh hok hby hv hB
  have HLT : Hid (∀ a ∈ x.args, a.ht < h) := fun a ha => by have := Ex.ht_args x a ha; omega
  obtain ⟨hop1, hop2, hn1, hn2, hoa⟩ := Ex.okC hok
  have HOK := Lib.hid (Exs.okC x.args hoa)
  clear hoa
  have hbe := Ex.by_eq x
  obtain ⟨sv, rfl, hs⟩ := hv
  obtain ⟨a, cap, rfl, hcap, hmx⟩ := hs.slice
  have HS := Lib.hid hs
  have hll : x.args.length ≤ 9223372036854775807 := by unfold maxLen at hmx; omega
  rw [hbe] at hby ⊢
  generalize x.op = o at *
  generalize x.n = n at *
  generalize x.args = l at *
  clear hs hh hok hbe
  have hrng : ∀ z ∈ [o, n, (l.length : Int)], -9223372036854775808 ≤ z ∧ z ≤ 9223372036854775807 := by
    intro z hz
    simp only [List.mem_cons, List.not_mem_nil, or_false] at hz
    rcases hz with rfl | rfl | rfl <;> omega
  have HRG := Lib.hid hrng
  rw [List.length_append] at hby
  generalize hP : putL [o, n, (l.length : Int)] = P at *
  have HP := Lib.hid hP
  clear hP hrng
  have HTL : Hid (∀ k, (Exs.by (l.take k)).length ≤ (Exs.by l).length) := Exs.by_take_le l
  have hW := (Below.refl w.heap.size w).alloc (Nat.le_refl _) (.cells #[.int .u8 o, .int .i64 n, .slice a l.length cap] 35)
  have hbx := Blk.new w #[.int .u8 o, .int .i64 n, .slice a l.length cap] 35
  go_enter Try.func53, Try.ntmps53
  go_upto_region 1 with fail
  generalize World.alloc w _ = W at *
  have p0 := hbx.cell 0
  have p1 := hbx.cell 1
  have p2 := hbx.cell 2
  go_wp2_with fail
  have hsl : Sl (W.alloc (.cells #[.int .i64 o, .int .i64 n, .int .i64 (l.length : Int)] 2)) (W.alloc (.cells #[.int .i64 o, .int .i64 n, .int .i64 (l.length : Int)] 2)).heap.size 1 (.slice (some ⟨W.heap.size, 0, none⟩) 3 3) 3 ([o, n, (l.length : Int)].map (Value.int .i64)) :=
    ⟨rfl, _, 3, rfl, Nat.le_refl _, by unfold maxLen; omega, .inr ⟨W.heap.size, 0, rfl, by simp, fun j hj => by rw [Nat.zero_add, (Blk.new W _ _).cell]; simp⟩⟩
  refine (PutB_c [o, n, (l.length : Int)] 3 _ _ _ hsl rfl (Nat.le_refl _) HRG.out (by omega)).mono ?_
  rw [HP.out]
  rintro e w1 ⟨rfl, hb1⟩
  have hq1 : Below W.heap.size W w1 := ((Below.refl W.heap.size W).alloc (Nat.le_refl _) _).trans (hb1.mono (by simp))
  have hW1 := hW.trans (hq1.mono hW.size)
  have hbx1 := hbx.below hq1 hbx.lt
  clear p0 p1 p2 hsl hb1 hq1 hW hbx
  have p0 := hbx1.cell 0
  have p1 := hbx1.cell 1
  have p2 := hbx1.cell 2
  have hzw := hbx1.lt
  have hPe : (⟨P.toArray⟩ : ByteArray) = bstr (P ++ Exs.by (l.take 0)) := by simp [bstr, Exs.by]
  rw [hPe]
  go_wp2_with fail
  clear p0 p1 p2 hPe
  go_loopw [3, 19] (fun s q wr => ∃ k : Nat, q = .int .i64 k ∧ k ≤ l.length ∧ s = .string (bstr (P ++ Exs.by (l.take k))) ∧ Below w1.heap.size w1 wr) (fun _ q _ => l.length - (intOf q).toNat)
  case atStart => exact ⟨0, rfl, Nat.zero_le _, rfl, Below.refl _ _⟩
  case round =>
    obtain ⟨k, rfl, hk, rfl, hBr0⟩ := hrel
    have hBr := hW1.trans (hBr0.mono hW1.size)
    by_cases hlt : k < l.length
    · obtain ⟨b, off, cp, sv, e1, hb, c0, c1, c2, hsub⟩ := ((HS.out.mono hB).keep hBr).at_ k hlt
      simp only [Value.slice.injEq, true_and] at e1
      obtain ⟨rfl, rfl⟩ := e1
      obtain ⟨a2, cap2, rfl, _, _⟩ := hsub.slice
      have hht := HLT.out _ (List.getElem_mem hlt)
      have hoky := HOK.out k hlt
      have HTK := Lib.hid (Exs.by_take l k hlt)
      have hb1 := HTL.out k
      have hb2 := HTL.out (k + 1)
      rw [HTK.out, List.length_append] at hb2
      generalize l[k] = y at *
      generalize Exs.by (l.take k) = T0 at *
      have hAl := hBr.alloc hBr.size (.cells #[.int .u8 y.op, .int .i64 y.n, .slice a2 y.args.length cap2] 35)
      have HX : Hid (ExAt (wr.alloc (.cells #[.int .u8 y.op, .int .i64 y.n, .slice a2 y.args.length cap2] 35)) w.heap.size (.agg #[.int .u8 y.op, .int .i64 y.n, .slice a2 y.args.length cap2]) y) :=
        ⟨_, rfl, hsub.keep ((Below.refl _ wr).alloc hBr.size _)⟩
      clear hsub
      have HCY := Lib.hid (IH.out y hht _ _ _ hoky (by omega) HX.out hAl.size)
      have hs1 := bstr_size (P ++ T0)
      have hs2 := bstr_size y.by
      rw [List.length_append] at hs1
      have HBA := Lib.hid (bstr_app (P ++ T0) y.by)
      generalize hyb : y.by = yb at *
      clear hyb
      generalize bstr (P ++ T0) = S0 at *
      generalize hyv : bstr yb = Sy at *
      go_wp2_with fail
      refine HCY.out.mono ?_
      rintro e w3 ⟨rfl, hb3⟩
      go_wp2_with fail
      go_roundw
      case rel =>
        refine ⟨k + 1, by go_num, by omega, ?_, ((hBr0.alloc hBr0.size _).trans (hb3.mono (hBr0.alloc hBr0.size _).size))⟩
        rw [HTK.out, ← List.append_assoc, HBA.out]
      case measure => simp [intOf]; omega
    · obtain rfl : k = l.length := by omega
      rw [List.take_of_length_le (Nat.le_refl _)]
      go_wp2_with fail
      go_ret
      exact ⟨rfl, hBr⟩

theorem putEx_all (h : Nat) : PutExC h := by
  induction h using Nat.strongRecOn with
  | ind h ih => exact putEx_step h (fun x hx v B w hok hl hv hB => ih x.ht hx x v B w (Nat.le_refl _) hok hl hv hB)

end Go.Proofs.Ytfieoehchghiiaa
