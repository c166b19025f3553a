/-
  Walk: the closure of kind.rules.
-/
import Derived.Test.YtfieoehchghiiaaK3
namespace Go.Proofs.Ytfieoehchghiiaa
open Go.RowKit
set_option linter.unusedVariables false

def rowsOf (ty a b c : Int) (ops : List Int) : List (Row × Int) := ops.map (fun o => (⟨o, a, b, c⟩, ty))

set_option maxHeartbeats 1000000 in
theorem put_c (ty A B C : Int) (ops : List Int) (n bs : Nat) (ts : TypeId) (Bm bm : Nat) (kv : List (Row × Int)) (w : World) (hn : ops.length = n) (hn2 : n ≤ 1000)
    (hs : Blk w bs ts (ops.map (Value.int .u8)).toArray) (hp : w.cell? ⟨Bm, 0, none⟩ = some (.map (some bm))) (hpb : Bm ≠ bm) (hpl : Bm < w.heap.size) (hsb : bs ≠ bm) (hm : MapIs w bm kv)
    (hnew : ∀ j (h : j < ops.length), findRow ⟨ops[j], A, B, C⟩ (kv ++ rowsOf ty A B C (ops.take j)) 0 = none) :
    Calls Try.prog 112 #[.int .u8 ty, .agg #[.int .u8 A, .int .u8 B, .int .u8 C], .slice (some ⟨bs, 0, none⟩) n n, .pointer (some ⟨Bm, 0, none⟩)] w
      fun e w' => e = .returned (.tuple #[]) ∧ MapIs w' bm (kv ++ rowsOf ty A B C ops) ∧ Fr (fun k => k = bm) w w' := by
  have HNEW := Lib.hid hnew
  have HN := Lib.hid hn
  clear hnew hn
  go_enter Try.func112, Try.ntmps112
  go_wp2
  have hW : Fr (fun k => k = bm) w (w.alloc (.cells #[.int .u8 A, .int .u8 B, .int .u8 C] 142)) := (Fr.refl _ w).alloc _
  have hA := Blk.new w #[.int .u8 A, .int .u8 B, .int .u8 C] 142
  have hp1 := (hW.block Bm hpl (by exact hpb))
  have hp' : (w.alloc (.cells #[.int .u8 A, .int .u8 B, .int .u8 C] 142)).cell? ⟨Bm, 0, none⟩ = some (.map (some bm)) := (((Below.refl _ w).alloc (Nat.le_refl _) _).cell (p := ⟨Bm, 0, none⟩) hpl).trans hp
  have hm' := hm.alloc (.cells #[.int .u8 A, .int .u8 B, .int .u8 C] 142)
  have hs' := hs.alloc (.cells #[.int .u8 A, .int .u8 B, .int .u8 C] 142)
  have hmlt := hm.lt
  generalize World.alloc w _ = W at *
  go_loopw [11] (fun q wr => ∃ j : Nat, q = .int .i64 j ∧ j ≤ n ∧ Fr (fun k => k = bm) w wr ∧ Blk wr bs ts (ops.map (Value.int .u8)).toArray ∧ Blk wr w.heap.size 142 #[.int .u8 A, .int .u8 B, .int .u8 C] ∧
    wr.cell? ⟨Bm, 0, none⟩ = some (.map (some bm)) ∧ MapIs wr bm (kv ++ rowsOf ty A B C (ops.take j))) (fun q _ => n - (intOf q).toNat)
  case atStart => exact ⟨0, rfl, Nat.zero_le _, hW, hs', hA, hp', by simpa [rowsOf] using hm'⟩
  case round =>
    obtain ⟨j, rfl, hj, hFr, hsr, hAr, hpr, hmr⟩ := hrel
    by_cases hlt : j < n
    · have hjl : j < ops.length := by have := HN.out; omega
      have hcell : wr.cell? ⟨bs, j, none⟩ = some (.int .u8 (ops[j]'hjl)) := by rw [hsr.cell j]; simp [hjl]
      have a0 := hAr.cell 0
      have a1 := hAr.cell 1
      have a2 := hAr.cell 2
      have HF := Lib.hid (HNEW.out j hjl)
      have HT := Lib.hid (List.take_succ_eq_append_getElem hjl)
      generalize ops[j] = o at *
      go_wp2_with (at_mapUpdate; refine wpList_update_row _ rfl _ _ _ rfl bm _ rfl hmr ⟨o, A, B, C⟩ rfl ty rfl HF.out ?_; intro w3 hm3 hf3)
      go_roundw
      case rel =>
        refine ⟨j + 1, by go_num, by omega, hFr.trans hf3, hsr.fr hf3 hsb, hAr.fr hf3 (by omega), ?_, ?_⟩
        · exact (World.cell?_of_block (a := ⟨Bm, 0, none⟩) (hf3.block Bm (Nat.lt_of_lt_of_le hpl hFr.size) hpb)).trans hpr
        · rw [HT.out]; simpa [rowsOf, List.append_assoc] using hm3
      case measure => simp [intOf]; omega
    · have HT := Lib.hid (show ops.take j = ops from List.take_of_length_le (by have := HN.out; omega))
      go_wp2
      go_end0
      refine ⟨rfl, ?_, hFr⟩
      rw [HT.out] at hmr
      exact hmr

end Go.Proofs.Ytfieoehchghiiaa
