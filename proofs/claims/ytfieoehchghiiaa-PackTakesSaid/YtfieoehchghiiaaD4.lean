/-
  Walk: ref12.Readers.
-/
import Derived.Test.YtfieoehchghiiaaD3
import Derived.Test.YtfieoehchghiiaaJ9
namespace Go.Proofs.Ytfieoehchghiiaa
open Go.RowKit
set_option linter.unusedVariables false
set_option linter.unusedSimpArgs false

set_option maxHeartbeats 4000000 in
theorem rReaders_c (jb : Jb) (at_ : Int) (v : Value) (B : Nat) (w : World) (hv : JbAt w B v jb) (hB : B ≤ w.heap.size) (hlen : jb.nodes.length ≤ 1000) :
    Calls Try.prog 85 #[v, .int .i64 at_] w fun e w' => ∃ v', e = .returned v' ∧ Sl w' w'.heap.size 1 v' (jb.readers at_).length ((jb.readers at_).map (Value.int .i64)) ∧ Below w.heap.size w w' := by
  obtain ⟨i0, hi, hz0, hz1, hz2⟩ := info_parts info_intJ
  have HE : Hid (jb.readers at_ = readersGo at_ jb.nodes 0) := rfl
  obtain ⟨sv, rfl, hs⟩ := hv
  obtain ⟨a, cap, rfl, hcap, hmx⟩ := hs.slice
  have HS := Lib.hid hs
  generalize jb.nodes = l at *
  generalize jb.par = par at *
  generalize jb.readers at_ = rr at *
  clear hs
  have hW := (Below.refl w.heap.size w).alloc (Nat.le_refl _) (.cells #[.int .i64 par, .slice a l.length cap] 24)
  have hJ := Blk.new w #[.int .i64 par, .slice a l.length cap] 24
  go_enter Try.func85, Try.ntmps85
  go_wp2_with fail
  generalize World.alloc w _ = W at *
  go_loopw [5, 6] (fun s q wr => ∃ (k : Nat) (xs : List Int), q = .int .i64 (k : Int) ∧ k ≤ l.length ∧ Below w.heap.size w wr ∧ Blk wr w.heap.size 24 #[.int .i64 par, .slice a l.length cap] ∧ wr.ownsRow (w.heap.size + 1) 3 1 s xs.length (xs.map (Value.int .i64)) ∧ xs.length ≤ k ∧ xs ++ readersGo at_ (l.drop k) k = readersGo at_ l 0) (fun _ q _ => l.length - (intOf q).toNat)
  case atStart => exact ⟨0, [], rfl, Nat.zero_le _, hW, hJ, World.ownsRow_nil _ _ _ _, Nat.le_refl _, rfl⟩
  case round =>
    obtain ⟨k, xs, rfl, hk, hBr, hJr, hown, hxk, hr⟩ := hrel
    have g1 := hJr.cell 1
    have hbw : w.heap.size < wr.heap.size := hJr.lt
    by_cases hlt : k < l.length
    · have hd1 : decide ((k : Int) < (l.length : Int)) = true := decide_eq_true (by omega)
      obtain ⟨b, off, cp, e1, hb, hu, iv, sv, c0, c1, c2, c3, c4, c5, c6, hin⟩ := ((HS.out.mono hB).keep hBr).at_ k hlt
      simp only [Value.slice.injEq, true_and] at e1
      obtain ⟨rfl, rfl⟩ := e1
      obtain ⟨_, ai, capi, rfl, _, hcm, _⟩ := id hin.1
      rw [List.drop_eq_getElem_cons hlt] at hr
      simp only [readersGo] at hr
      have hym : (l[k]'hlt).ins.length ≤ 9223372036854775807 := by unfold maxLen at hcm; omega
      generalize l[k] = y at *
      have HSL := Lib.hid hin.1
      have HR := Lib.hid hr
      rename_i hx1 hx2 hx3
      clear hr hin hx1 hx2 hx3 c0 c1 c3 c4 c5 c6 hu
      go_wp2_with fail
      go_loopw [7, 8] (fun s q wx => ∃ (m : Nat) (r : Bool), q = .int .i64 (m : Int) ∧ s = .bool r ∧ m ≤ y.ins.length ∧ wx = wr ∧ (y.ins.take m).any (fun z => at_ == z) = r) (fun _ q _ => y.ins.length - (intOf q).toNat)
      case atStart => exact ⟨0, false, rfl, rfl, Nat.zero_le _, rfl, rfl⟩
      case round =>
        obtain ⟨m, r, rfl, rfl, hm, rfl, hra⟩ := hrel
        by_cases hlm : m < y.ins.length
        · have hd2 : decide ((m : Int) < (y.ins.length : Int)) = true := decide_eq_true (by omega)
          obtain ⟨b', off', cp', e1, hb', g1', p0⟩ := HSL.out.int m hlm
          simp only [Value.slice.injEq, true_and] at e1
          obtain ⟨rfl, rfl⟩ := e1
          have HAN : Hid ((y.ins.take (m + 1)).any (fun z => at_ == z) = (r || (at_ == y.ins[m]))) := by
            show _ = _
            rw [List.take_succ_eq_append_getElem hlm, List.any_append, hra]
            simp
          generalize y.ins[m] = z at *
          have hzz : (z == at_) = (at_ == z) := by rw [Bool.eq_iff_iff, beq_iff_eq, beq_iff_eq]; exact eq_comm
          rw [← hzz] at HAN
          clear hzz hra
          cases r
          · cases hza : (z == at_)
            all_goals
              have HAZ := Lib.hid hza
              go_wp2_with fail
              go_roundw
              case rel => exact ⟨m + 1, _, by go_num, rfl, by omega, trivial, by rw [HAN.out, HAZ.out]; rfl⟩
              case measure => simp [intOf]; omega
          · go_wp2_with fail
            go_roundw
            case rel => exact ⟨m + 1, true, by go_num, rfl, by omega, trivial, by rw [HAN.out]; rfl⟩
            case measure => simp [intOf]; omega
        · have hd2 : decide ((m : Int) < (y.ins.length : Int)) = false := decide_eq_false (by omega)
          rw [List.take_of_length_le (by omega)] at hra
          rw [hra] at HR
          clear hra
          cases r
          · go_wp2_with fail
            go_roundw
            case rel => exact ⟨k + 1, xs, by go_num, by omega, hBr, hJr, hown, by omega, HR.out⟩
            case measure => simp [intOf]; omega
          · have hon := own_keep hown ((Below.refl wr.heap.size wr).alloc (Nat.le_refl _) (.cells #[.int .i64 (k : Int)] 3))
            have hB1 := hBr.alloc (Nat.le_of_lt hbw) (.cells #[.int .i64 (k : Int)] 3)
            have hJ1 := hJr.alloc (.cells #[.int .i64 (k : Int)] 3)
            go_wp2_with (at_builtin; refine wpList_append_own _ rfl _ _ 32 rfl (w.heap.size + 1) 3 i0 (.int .i64 0) 1 8 Try.underlying32 hi hz0 hz1 hz2 rfl (by decide) u5 xs.length (xs.map (Value.int .i64)) rfl hon ⟨wr.heap.size, 0, none⟩ 1 1 [.int .i64 (k : Int)] rfl rfl (cell_one_newJ _ _ _) (by simp [Value.oneCell']) (by unfold maxLen; omega) (by omega) (by simp; omega) ?_; intro v1' w3 hown3 hgrow3 _)
            have hgn : ∀ q, u5.ownBlock = some q → w.heap.size + 1 ≤ q := fun q hq => (hown.lt q hq).1
            go_roundw
            case rel => exact ⟨k + 1, xs ++ [(k : Int)], by go_num, by omega, hB1.grown hgrow3 (by simp; omega) (fun q hq => by have := hgn q hq; omega), hJ1.grown hgrow3 (fun e => by have := hgn _ e.symm; omega), by simpa using hown3, by simp; omega, by rw [← HR.out, List.append_assoc]; rfl⟩
            case measure => simp [intOf]; omega
    · have hd1 : decide ((k : Int) < (l.length : Int)) = false := decide_eq_false (by omega)
      rw [List.drop_of_length_le (by omega)] at hr
      simp only [readersGo, List.append_nil] at hr
      go_wp2_with fail
      go_ret
      refine ⟨_, rfl, ?_, hBr⟩
      rw [HE.out, ← hr]
      exact Sl.of_owns hown

end Go.Proofs.Ytfieoehchghiiaa
