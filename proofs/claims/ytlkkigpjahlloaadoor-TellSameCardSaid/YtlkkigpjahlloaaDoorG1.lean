/-
  The walk of the reference's op.
-/
import Derived.Test.YtlkkigpjahlloaaDoorG0
namespace Go.Proofs.YtlkkigpjahlloaaDoor
open Go.RowKit
set_option linter.unusedVariables false

/-- What a sign of a level makes; 0: it is none. -/
def opL : List (List UInt8 × Int) → List UInt8 → Int
  | [], _ => 0
  | (x, o) :: r, s => if x = s then o else opL r s

def OpRel0 (s : ByteArray) (fi wd i : Value) : Prop := ∃ k : Nat, i = .int .i64 k ∧ ((k = 0 ∧ wd = .string { data := #[] } ∧ fi = .int .u8 17 ∧ Hid (True)) ∨ (k = 1 ∧ wd = .string { data := #[124] } ∧ fi = .int .u8 17 ∧ Hid (True)) ∨ (k = 2 ∧ wd = .string { data := #[] } ∧ fi = .int .u8 18 ∧ Hid ([124] ≠ s.toList)))
set_option maxRecDepth 100000 in
set_option maxHeartbeats 4000000 in
theorem op_0 (s : ByteArray) (w : World) : Calls Tryd.prog 49 #[.int .i64 0, .string s] w fun e w' => e = .returned (.int .u8 (opL (lvSigns 0) s.toList)) ∧ Below w.heap.size w w' := by
  have HT : Hid (∃ r, opL (lvSigns 0) s.toList = r) := ⟨_, rfl⟩
  go_enter Tryd.func49, Tryd.ntmps49
  go_wp2
  have hB := ((Below.refl w.heap.size w).alloc (Nat.le_refl _) (.cells #[.string { data := #[124] }, .string { data := #[38] }, .string { data := #[60, 32, 60, 61, 32, 61, 32, 33, 61] }, .string { data := #[43, 32, 45] }, .string { data := #[42, 32, 47, 32, 37] }] 9)).alloc (by simp) (.cells #[.int .u8 17, .int .u8 16, .int .u8 12, .int .u8 7, .int .u8 9] 5)
  generalize World.alloc (World.alloc w _) _ = W at *
  go_loop [6, 7, 8] (fun fi wd i => OpRel0 s fi wd i) (fun _ _ i => 3 - (intOf i).toNat)
  case atStart => exact ⟨0, rfl, .inl ⟨rfl, rfl, rfl, trivial⟩⟩
  case round =>
    obtain ⟨k, rfl, hk⟩ := hrel
    rcases hk with ⟨rfl, rfl, rfl, hn⟩ | ⟨rfl, rfl, rfl, hn⟩ | ⟨rfl, rfl, rfl, hn⟩
    · go_wp2
      go_round
      case rel => exact ⟨1, by go_num, .inr (.inl ⟨rfl, rfl, rfl, hn⟩)⟩
      case measure => simp [intOf]
    · by_cases hq : [124] = s.toList
      · have hq' : (({ data := #[124] } : ByteArray).toList == s.toList) = true := by rw [show ({ data := #[124] } : ByteArray).toList = [124] from by kernel_rfl, hq]; simp
        have hq2 : (([124] : List UInt8) == s.toList) = true := by rw [hq]; simp
        have HQ := Lib.hid hq
        clear hq
        go_wp2
        go_ret
        refine ⟨ret_int ?_, hB⟩
        have hq := HQ.out
        simp only [lvSigns, opL]
        simp [← hq]
      · have hq' : (({ data := #[124] } : ByteArray).toList == s.toList) = false := by rw [show ({ data := #[124] } : ByteArray).toList = [124] from by kernel_rfl]; simpa using hq
        have hq2 : (([124] : List UInt8) == s.toList) = false := by simpa using hq
        have HN : Hid ([124] ≠ s.toList) := hq
        clear hq hn
        go_wp2
        go_round
        case rel => exact ⟨2, by go_num, .inr (.inr ⟨rfl, rfl, rfl, HN⟩)⟩
        case measure => simp [intOf]
    · go_wp2
      go_ret
      refine ⟨ret_int ?_, hB⟩
      have hn := hn.out
      simp only [lvSigns, opL]
      simp [hn]

def OpRel1 (s : ByteArray) (fi wd i : Value) : Prop := ∃ k : Nat, i = .int .i64 k ∧ ((k = 0 ∧ wd = .string { data := #[] } ∧ fi = .int .u8 16 ∧ Hid (True)) ∨ (k = 1 ∧ wd = .string { data := #[38] } ∧ fi = .int .u8 16 ∧ Hid (True)) ∨ (k = 2 ∧ wd = .string { data := #[] } ∧ fi = .int .u8 17 ∧ Hid ([38] ≠ s.toList)))
set_option maxRecDepth 100000 in
set_option maxHeartbeats 4000000 in
theorem op_1 (s : ByteArray) (w : World) : Calls Tryd.prog 49 #[.int .i64 1, .string s] w fun e w' => e = .returned (.int .u8 (opL (lvSigns 1) s.toList)) ∧ Below w.heap.size w w' := by
  have HT : Hid (∃ r, opL (lvSigns 1) s.toList = r) := ⟨_, rfl⟩
  go_enter Tryd.func49, Tryd.ntmps49
  go_wp2
  have hB := ((Below.refl w.heap.size w).alloc (Nat.le_refl _) (.cells #[.string { data := #[124] }, .string { data := #[38] }, .string { data := #[60, 32, 60, 61, 32, 61, 32, 33, 61] }, .string { data := #[43, 32, 45] }, .string { data := #[42, 32, 47, 32, 37] }] 9)).alloc (by simp) (.cells #[.int .u8 17, .int .u8 16, .int .u8 12, .int .u8 7, .int .u8 9] 5)
  generalize World.alloc (World.alloc w _) _ = W at *
  go_loop [6, 7, 8] (fun fi wd i => OpRel1 s fi wd i) (fun _ _ i => 3 - (intOf i).toNat)
  case atStart => exact ⟨0, rfl, .inl ⟨rfl, rfl, rfl, trivial⟩⟩
  case round =>
    obtain ⟨k, rfl, hk⟩ := hrel
    rcases hk with ⟨rfl, rfl, rfl, hn⟩ | ⟨rfl, rfl, rfl, hn⟩ | ⟨rfl, rfl, rfl, hn⟩
    · go_wp2
      go_round
      case rel => exact ⟨1, by go_num, .inr (.inl ⟨rfl, rfl, rfl, hn⟩)⟩
      case measure => simp [intOf]
    · by_cases hq : [38] = s.toList
      · have hq' : (({ data := #[38] } : ByteArray).toList == s.toList) = true := by rw [show ({ data := #[38] } : ByteArray).toList = [38] from by kernel_rfl, hq]; simp
        have hq2 : (([38] : List UInt8) == s.toList) = true := by rw [hq]; simp
        have HQ := Lib.hid hq
        clear hq
        go_wp2
        go_ret
        refine ⟨ret_int ?_, hB⟩
        have hq := HQ.out
        simp only [lvSigns, opL]
        simp [← hq]
      · have hq' : (({ data := #[38] } : ByteArray).toList == s.toList) = false := by rw [show ({ data := #[38] } : ByteArray).toList = [38] from by kernel_rfl]; simpa using hq
        have hq2 : (([38] : List UInt8) == s.toList) = false := by simpa using hq
        have HN : Hid ([38] ≠ s.toList) := hq
        clear hq hn
        go_wp2
        go_round
        case rel => exact ⟨2, by go_num, .inr (.inr ⟨rfl, rfl, rfl, HN⟩)⟩
        case measure => simp [intOf]
    · go_wp2
      go_ret
      refine ⟨ret_int ?_, hB⟩
      have hn := hn.out
      simp only [lvSigns, opL]
      simp [hn]

def OpRel2 (s : ByteArray) (fi wd i : Value) : Prop := ∃ k : Nat, i = .int .i64 k ∧ ((k = 0 ∧ wd = .string { data := #[] } ∧ fi = .int .u8 12 ∧ Hid (True)) ∨ (k = 1 ∧ wd = .string { data := #[60] } ∧ fi = .int .u8 12 ∧ Hid (True)) ∨ (k = 2 ∧ wd = .string { data := #[] } ∧ fi = .int .u8 13 ∧ Hid ([60] ≠ s.toList)) ∨ (k = 3 ∧ wd = .string { data := #[60] } ∧ fi = .int .u8 13 ∧ Hid ([60] ≠ s.toList)) ∨ (k = 4 ∧ wd = .string { data := #[60, 61] } ∧ fi = .int .u8 13 ∧ Hid ([60] ≠ s.toList)) ∨ (k = 5 ∧ wd = .string { data := #[] } ∧ fi = .int .u8 14 ∧ Hid ([60] ≠ s.toList ∧ [60, 61] ≠ s.toList)) ∨ (k = 6 ∧ wd = .string { data := #[61] } ∧ fi = .int .u8 14 ∧ Hid ([60] ≠ s.toList ∧ [60, 61] ≠ s.toList)) ∨ (k = 7 ∧ wd = .string { data := #[] } ∧ fi = .int .u8 15 ∧ Hid ([60] ≠ s.toList ∧ [60, 61] ≠ s.toList ∧ [61] ≠ s.toList)) ∨ (k = 8 ∧ wd = .string { data := #[33] } ∧ fi = .int .u8 15 ∧ Hid ([60] ≠ s.toList ∧ [60, 61] ≠ s.toList ∧ [61] ≠ s.toList)) ∨ (k = 9 ∧ wd = .string { data := #[33, 61] } ∧ fi = .int .u8 15 ∧ Hid ([60] ≠ s.toList ∧ [60, 61] ≠ s.toList ∧ [61] ≠ s.toList)) ∨ (k = 10 ∧ wd = .string { data := #[] } ∧ fi = .int .u8 16 ∧ Hid ([60] ≠ s.toList ∧ [60, 61] ≠ s.toList ∧ [61] ≠ s.toList ∧ [33, 61] ≠ s.toList)))
set_option maxRecDepth 100000 in
set_option maxHeartbeats 4000000 in
theorem op_2 (s : ByteArray) (w : World) : Calls Tryd.prog 49 #[.int .i64 2, .string s] w fun e w' => e = .returned (.int .u8 (opL (lvSigns 2) s.toList)) ∧ Below w.heap.size w w' := by
  have HT : Hid (∃ r, opL (lvSigns 2) s.toList = r) := ⟨_, rfl⟩
  go_enter Tryd.func49, Tryd.ntmps49
  go_wp2
  have hB := ((Below.refl w.heap.size w).alloc (Nat.le_refl _) (.cells #[.string { data := #[124] }, .string { data := #[38] }, .string { data := #[60, 32, 60, 61, 32, 61, 32, 33, 61] }, .string { data := #[43, 32, 45] }, .string { data := #[42, 32, 47, 32, 37] }] 9)).alloc (by simp) (.cells #[.int .u8 17, .int .u8 16, .int .u8 12, .int .u8 7, .int .u8 9] 5)
  generalize World.alloc (World.alloc w _) _ = W at *
  go_loop [6, 7, 8] (fun fi wd i => OpRel2 s fi wd i) (fun _ _ i => 11 - (intOf i).toNat)
  case atStart => exact ⟨0, rfl, .inl ⟨rfl, rfl, rfl, trivial⟩⟩
  case round =>
    obtain ⟨k, rfl, hk⟩ := hrel
    rcases hk with ⟨rfl, rfl, rfl, hn⟩ | ⟨rfl, rfl, rfl, hn⟩ | ⟨rfl, rfl, rfl, hn⟩ | ⟨rfl, rfl, rfl, hn⟩ | ⟨rfl, rfl, rfl, hn⟩ | ⟨rfl, rfl, rfl, hn⟩ | ⟨rfl, rfl, rfl, hn⟩ | ⟨rfl, rfl, rfl, hn⟩ | ⟨rfl, rfl, rfl, hn⟩ | ⟨rfl, rfl, rfl, hn⟩ | ⟨rfl, rfl, rfl, hn⟩
    · go_wp2
      go_round
      case rel => exact ⟨1, by go_num, .inr (.inl ⟨rfl, rfl, rfl, hn⟩)⟩
      case measure => simp [intOf]
    · by_cases hq : [60] = s.toList
      · have hq' : (({ data := #[60] } : ByteArray).toList == s.toList) = true := by rw [show ({ data := #[60] } : ByteArray).toList = [60] from by kernel_rfl, hq]; simp
        have hq2 : (([60] : List UInt8) == s.toList) = true := by rw [hq]; simp
        have HQ := Lib.hid hq
        clear hq
        go_wp2
        go_ret
        refine ⟨ret_int ?_, hB⟩
        have hq := HQ.out
        simp only [lvSigns, opL]
        simp [← hq]
      · have hq' : (({ data := #[60] } : ByteArray).toList == s.toList) = false := by rw [show ({ data := #[60] } : ByteArray).toList = [60] from by kernel_rfl]; simpa using hq
        have hq2 : (([60] : List UInt8) == s.toList) = false := by simpa using hq
        have HN : Hid ([60] ≠ s.toList) := hq
        clear hq hn
        go_wp2
        go_round
        case rel => exact ⟨2, by go_num, .inr (.inr (.inl ⟨rfl, rfl, rfl, HN⟩))⟩
        case measure => simp [intOf]
    · go_wp2
      go_round
      case rel => exact ⟨3, by go_num, .inr (.inr (.inr (.inl ⟨rfl, rfl, rfl, hn⟩)))⟩
      case measure => simp [intOf]
    · go_wp2
      go_round
      case rel => exact ⟨4, by go_num, .inr (.inr (.inr (.inr (.inl ⟨rfl, rfl, rfl, hn⟩))))⟩
      case measure => simp [intOf]
    · by_cases hq : [60, 61] = s.toList
      · have hq' : (({ data := #[60, 61] } : ByteArray).toList == s.toList) = true := by rw [show ({ data := #[60, 61] } : ByteArray).toList = [60, 61] from by kernel_rfl, hq]; simp
        have hq2 : (([60, 61] : List UInt8) == s.toList) = true := by rw [hq]; simp
        have HQ := Lib.hid hq
        clear hq
        go_wp2
        go_ret
        refine ⟨ret_int ?_, hB⟩
        have hq := HQ.out
        simp only [lvSigns, opL]
        simp [← hq]
      · have hq' : (({ data := #[60, 61] } : ByteArray).toList == s.toList) = false := by rw [show ({ data := #[60, 61] } : ByteArray).toList = [60, 61] from by kernel_rfl]; simpa using hq
        have hq2 : (([60, 61] : List UInt8) == s.toList) = false := by simpa using hq
        have HN : Hid ([60] ≠ s.toList ∧ [60, 61] ≠ s.toList) := ⟨hn.out, hq⟩
        clear hq hn
        go_wp2
        go_round
        case rel => exact ⟨5, by go_num, .inr (.inr (.inr (.inr (.inr (.inl ⟨rfl, rfl, rfl, HN⟩)))))⟩
        case measure => simp [intOf]
    · go_wp2
      go_round
      case rel => exact ⟨6, by go_num, .inr (.inr (.inr (.inr (.inr (.inr (.inl ⟨rfl, rfl, rfl, hn⟩))))))⟩
      case measure => simp [intOf]
    · by_cases hq : [61] = s.toList
      · have hq' : (({ data := #[61] } : ByteArray).toList == s.toList) = true := by rw [show ({ data := #[61] } : ByteArray).toList = [61] from by kernel_rfl, hq]; simp
        have hq2 : (([61] : List UInt8) == s.toList) = true := by rw [hq]; simp
        have HQ := Lib.hid hq
        clear hq
        go_wp2
        go_ret
        refine ⟨ret_int ?_, hB⟩
        have hq := HQ.out
        simp only [lvSigns, opL]
        simp [← hq]
      · have hq' : (({ data := #[61] } : ByteArray).toList == s.toList) = false := by rw [show ({ data := #[61] } : ByteArray).toList = [61] from by kernel_rfl]; simpa using hq
        have hq2 : (([61] : List UInt8) == s.toList) = false := by simpa using hq
        have HN : Hid ([60] ≠ s.toList ∧ [60, 61] ≠ s.toList ∧ [61] ≠ s.toList) := ⟨hn.out.1, hn.out.2, hq⟩
        clear hq hn
        go_wp2
        go_round
        case rel => exact ⟨7, by go_num, .inr (.inr (.inr (.inr (.inr (.inr (.inr (.inl ⟨rfl, rfl, rfl, HN⟩)))))))⟩
        case measure => simp [intOf]
    · go_wp2
      go_round
      case rel => exact ⟨8, by go_num, .inr (.inr (.inr (.inr (.inr (.inr (.inr (.inr (.inl ⟨rfl, rfl, rfl, hn⟩))))))))⟩
      case measure => simp [intOf]
    · go_wp2
      go_round
      case rel => exact ⟨9, by go_num, .inr (.inr (.inr (.inr (.inr (.inr (.inr (.inr (.inr (.inl ⟨rfl, rfl, rfl, hn⟩)))))))))⟩
      case measure => simp [intOf]
    · by_cases hq : [33, 61] = s.toList
      · have hq' : (({ data := #[33, 61] } : ByteArray).toList == s.toList) = true := by rw [show ({ data := #[33, 61] } : ByteArray).toList = [33, 61] from by kernel_rfl, hq]; simp
        have hq2 : (([33, 61] : List UInt8) == s.toList) = true := by rw [hq]; simp
        have HQ := Lib.hid hq
        clear hq
        go_wp2
        go_ret
        refine ⟨ret_int ?_, hB⟩
        have hq := HQ.out
        simp only [lvSigns, opL]
        simp [← hq]
      · have hq' : (({ data := #[33, 61] } : ByteArray).toList == s.toList) = false := by rw [show ({ data := #[33, 61] } : ByteArray).toList = [33, 61] from by kernel_rfl]; simpa using hq
        have hq2 : (([33, 61] : List UInt8) == s.toList) = false := by simpa using hq
        have HN : Hid ([60] ≠ s.toList ∧ [60, 61] ≠ s.toList ∧ [61] ≠ s.toList ∧ [33, 61] ≠ s.toList) := ⟨hn.out.1, hn.out.2.1, hn.out.2.2, hq⟩
        clear hq hn
        go_wp2
        go_round
        case rel => exact ⟨10, by go_num, .inr (.inr (.inr (.inr (.inr (.inr (.inr (.inr (.inr (.inr ⟨rfl, rfl, rfl, HN⟩)))))))))⟩
        case measure => simp [intOf]
    · go_wp2
      go_ret
      refine ⟨ret_int ?_, hB⟩
      have hn := hn.out
      simp only [lvSigns, opL]
      simp [hn]

def OpRel3 (s : ByteArray) (fi wd i : Value) : Prop := ∃ k : Nat, i = .int .i64 k ∧ ((k = 0 ∧ wd = .string { data := #[] } ∧ fi = .int .u8 7 ∧ Hid (True)) ∨ (k = 1 ∧ wd = .string { data := #[43] } ∧ fi = .int .u8 7 ∧ Hid (True)) ∨ (k = 2 ∧ wd = .string { data := #[] } ∧ fi = .int .u8 8 ∧ Hid ([43] ≠ s.toList)) ∨ (k = 3 ∧ wd = .string { data := #[45] } ∧ fi = .int .u8 8 ∧ Hid ([43] ≠ s.toList)) ∨ (k = 4 ∧ wd = .string { data := #[] } ∧ fi = .int .u8 9 ∧ Hid ([43] ≠ s.toList ∧ [45] ≠ s.toList)))
set_option maxRecDepth 100000 in
set_option maxHeartbeats 4000000 in
theorem op_3 (s : ByteArray) (w : World) : Calls Tryd.prog 49 #[.int .i64 3, .string s] w fun e w' => e = .returned (.int .u8 (opL (lvSigns 3) s.toList)) ∧ Below w.heap.size w w' := by
  have HT : Hid (∃ r, opL (lvSigns 3) s.toList = r) := ⟨_, rfl⟩
  go_enter Tryd.func49, Tryd.ntmps49
  go_wp2
  have hB := ((Below.refl w.heap.size w).alloc (Nat.le_refl _) (.cells #[.string { data := #[124] }, .string { data := #[38] }, .string { data := #[60, 32, 60, 61, 32, 61, 32, 33, 61] }, .string { data := #[43, 32, 45] }, .string { data := #[42, 32, 47, 32, 37] }] 9)).alloc (by simp) (.cells #[.int .u8 17, .int .u8 16, .int .u8 12, .int .u8 7, .int .u8 9] 5)
  generalize World.alloc (World.alloc w _) _ = W at *
  go_loop [6, 7, 8] (fun fi wd i => OpRel3 s fi wd i) (fun _ _ i => 5 - (intOf i).toNat)
  case atStart => exact ⟨0, rfl, .inl ⟨rfl, rfl, rfl, trivial⟩⟩
  case round =>
    obtain ⟨k, rfl, hk⟩ := hrel
    rcases hk with ⟨rfl, rfl, rfl, hn⟩ | ⟨rfl, rfl, rfl, hn⟩ | ⟨rfl, rfl, rfl, hn⟩ | ⟨rfl, rfl, rfl, hn⟩ | ⟨rfl, rfl, rfl, hn⟩
    · go_wp2
      go_round
      case rel => exact ⟨1, by go_num, .inr (.inl ⟨rfl, rfl, rfl, hn⟩)⟩
      case measure => simp [intOf]
    · by_cases hq : [43] = s.toList
      · have hq' : (({ data := #[43] } : ByteArray).toList == s.toList) = true := by rw [show ({ data := #[43] } : ByteArray).toList = [43] from by kernel_rfl, hq]; simp
        have hq2 : (([43] : List UInt8) == s.toList) = true := by rw [hq]; simp
        have HQ := Lib.hid hq
        clear hq
        go_wp2
        go_ret
        refine ⟨ret_int ?_, hB⟩
        have hq := HQ.out
        simp only [lvSigns, opL]
        simp [← hq]
      · have hq' : (({ data := #[43] } : ByteArray).toList == s.toList) = false := by rw [show ({ data := #[43] } : ByteArray).toList = [43] from by kernel_rfl]; simpa using hq
        have hq2 : (([43] : List UInt8) == s.toList) = false := by simpa using hq
        have HN : Hid ([43] ≠ s.toList) := hq
        clear hq hn
        go_wp2
        go_round
        case rel => exact ⟨2, by go_num, .inr (.inr (.inl ⟨rfl, rfl, rfl, HN⟩))⟩
        case measure => simp [intOf]
    · go_wp2
      go_round
      case rel => exact ⟨3, by go_num, .inr (.inr (.inr (.inl ⟨rfl, rfl, rfl, hn⟩)))⟩
      case measure => simp [intOf]
    · by_cases hq : [45] = s.toList
      · have hq' : (({ data := #[45] } : ByteArray).toList == s.toList) = true := by rw [show ({ data := #[45] } : ByteArray).toList = [45] from by kernel_rfl, hq]; simp
        have hq2 : (([45] : List UInt8) == s.toList) = true := by rw [hq]; simp
        have HQ := Lib.hid hq
        clear hq
        go_wp2
        go_ret
        refine ⟨ret_int ?_, hB⟩
        have hq := HQ.out
        simp only [lvSigns, opL]
        simp [← hq]
      · have hq' : (({ data := #[45] } : ByteArray).toList == s.toList) = false := by rw [show ({ data := #[45] } : ByteArray).toList = [45] from by kernel_rfl]; simpa using hq
        have hq2 : (([45] : List UInt8) == s.toList) = false := by simpa using hq
        have HN : Hid ([43] ≠ s.toList ∧ [45] ≠ s.toList) := ⟨hn.out, hq⟩
        clear hq hn
        go_wp2
        go_round
        case rel => exact ⟨4, by go_num, .inr (.inr (.inr (.inr ⟨rfl, rfl, rfl, HN⟩)))⟩
        case measure => simp [intOf]
    · go_wp2
      go_ret
      refine ⟨ret_int ?_, hB⟩
      have hn := hn.out
      simp only [lvSigns, opL]
      simp [hn]

def OpRel4 (s : ByteArray) (fi wd i : Value) : Prop := ∃ k : Nat, i = .int .i64 k ∧ ((k = 0 ∧ wd = .string { data := #[] } ∧ fi = .int .u8 9 ∧ Hid (True)) ∨ (k = 1 ∧ wd = .string { data := #[42] } ∧ fi = .int .u8 9 ∧ Hid (True)) ∨ (k = 2 ∧ wd = .string { data := #[] } ∧ fi = .int .u8 10 ∧ Hid ([42] ≠ s.toList)) ∨ (k = 3 ∧ wd = .string { data := #[47] } ∧ fi = .int .u8 10 ∧ Hid ([42] ≠ s.toList)) ∨ (k = 4 ∧ wd = .string { data := #[] } ∧ fi = .int .u8 11 ∧ Hid ([42] ≠ s.toList ∧ [47] ≠ s.toList)) ∨ (k = 5 ∧ wd = .string { data := #[37] } ∧ fi = .int .u8 11 ∧ Hid ([42] ≠ s.toList ∧ [47] ≠ s.toList)) ∨ (k = 6 ∧ wd = .string { data := #[] } ∧ fi = .int .u8 12 ∧ Hid ([42] ≠ s.toList ∧ [47] ≠ s.toList ∧ [37] ≠ s.toList)))
set_option maxRecDepth 100000 in
set_option maxHeartbeats 4000000 in
theorem op_4 (s : ByteArray) (w : World) : Calls Tryd.prog 49 #[.int .i64 4, .string s] w fun e w' => e = .returned (.int .u8 (opL (lvSigns 4) s.toList)) ∧ Below w.heap.size w w' := by
  have HT : Hid (∃ r, opL (lvSigns 4) s.toList = r) := ⟨_, rfl⟩
  go_enter Tryd.func49, Tryd.ntmps49
  go_wp2
  have hB := ((Below.refl w.heap.size w).alloc (Nat.le_refl _) (.cells #[.string { data := #[124] }, .string { data := #[38] }, .string { data := #[60, 32, 60, 61, 32, 61, 32, 33, 61] }, .string { data := #[43, 32, 45] }, .string { data := #[42, 32, 47, 32, 37] }] 9)).alloc (by simp) (.cells #[.int .u8 17, .int .u8 16, .int .u8 12, .int .u8 7, .int .u8 9] 5)
  generalize World.alloc (World.alloc w _) _ = W at *
  go_loop [6, 7, 8] (fun fi wd i => OpRel4 s fi wd i) (fun _ _ i => 7 - (intOf i).toNat)
  case atStart => exact ⟨0, rfl, .inl ⟨rfl, rfl, rfl, trivial⟩⟩
  case round =>
    obtain ⟨k, rfl, hk⟩ := hrel
    rcases hk with ⟨rfl, rfl, rfl, hn⟩ | ⟨rfl, rfl, rfl, hn⟩ | ⟨rfl, rfl, rfl, hn⟩ | ⟨rfl, rfl, rfl, hn⟩ | ⟨rfl, rfl, rfl, hn⟩ | ⟨rfl, rfl, rfl, hn⟩ | ⟨rfl, rfl, rfl, hn⟩
    · go_wp2
      go_round
      case rel => exact ⟨1, by go_num, .inr (.inl ⟨rfl, rfl, rfl, hn⟩)⟩
      case measure => simp [intOf]
    · by_cases hq : [42] = s.toList
      · have hq' : (({ data := #[42] } : ByteArray).toList == s.toList) = true := by rw [show ({ data := #[42] } : ByteArray).toList = [42] from by kernel_rfl, hq]; simp
        have hq2 : (([42] : List UInt8) == s.toList) = true := by rw [hq]; simp
        have HQ := Lib.hid hq
        clear hq
        go_wp2
        go_ret
        refine ⟨ret_int ?_, hB⟩
        have hq := HQ.out
        simp only [lvSigns, opL]
        simp [← hq]
      · have hq' : (({ data := #[42] } : ByteArray).toList == s.toList) = false := by rw [show ({ data := #[42] } : ByteArray).toList = [42] from by kernel_rfl]; simpa using hq
        have hq2 : (([42] : List UInt8) == s.toList) = false := by simpa using hq
        have HN : Hid ([42] ≠ s.toList) := hq
        clear hq hn
        go_wp2
        go_round
        case rel => exact ⟨2, by go_num, .inr (.inr (.inl ⟨rfl, rfl, rfl, HN⟩))⟩
        case measure => simp [intOf]
    · go_wp2
      go_round
      case rel => exact ⟨3, by go_num, .inr (.inr (.inr (.inl ⟨rfl, rfl, rfl, hn⟩)))⟩
      case measure => simp [intOf]
    · by_cases hq : [47] = s.toList
      · have hq' : (({ data := #[47] } : ByteArray).toList == s.toList) = true := by rw [show ({ data := #[47] } : ByteArray).toList = [47] from by kernel_rfl, hq]; simp
        have hq2 : (([47] : List UInt8) == s.toList) = true := by rw [hq]; simp
        have HQ := Lib.hid hq
        clear hq
        go_wp2
        go_ret
        refine ⟨ret_int ?_, hB⟩
        have hq := HQ.out
        simp only [lvSigns, opL]
        simp [← hq]
      · have hq' : (({ data := #[47] } : ByteArray).toList == s.toList) = false := by rw [show ({ data := #[47] } : ByteArray).toList = [47] from by kernel_rfl]; simpa using hq
        have hq2 : (([47] : List UInt8) == s.toList) = false := by simpa using hq
        have HN : Hid ([42] ≠ s.toList ∧ [47] ≠ s.toList) := ⟨hn.out, hq⟩
        clear hq hn
        go_wp2
        go_round
        case rel => exact ⟨4, by go_num, .inr (.inr (.inr (.inr (.inl ⟨rfl, rfl, rfl, HN⟩))))⟩
        case measure => simp [intOf]
    · go_wp2
      go_round
      case rel => exact ⟨5, by go_num, .inr (.inr (.inr (.inr (.inr (.inl ⟨rfl, rfl, rfl, hn⟩)))))⟩
      case measure => simp [intOf]
    · by_cases hq : [37] = s.toList
      · have hq' : (({ data := #[37] } : ByteArray).toList == s.toList) = true := by rw [show ({ data := #[37] } : ByteArray).toList = [37] from by kernel_rfl, hq]; simp
        have hq2 : (([37] : List UInt8) == s.toList) = true := by rw [hq]; simp
        have HQ := Lib.hid hq
        clear hq
        go_wp2
        go_ret
        refine ⟨ret_int ?_, hB⟩
        have hq := HQ.out
        simp only [lvSigns, opL]
        simp [← hq]
      · have hq' : (({ data := #[37] } : ByteArray).toList == s.toList) = false := by rw [show ({ data := #[37] } : ByteArray).toList = [37] from by kernel_rfl]; simpa using hq
        have hq2 : (([37] : List UInt8) == s.toList) = false := by simpa using hq
        have HN : Hid ([42] ≠ s.toList ∧ [47] ≠ s.toList ∧ [37] ≠ s.toList) := ⟨hn.out.1, hn.out.2, hq⟩
        clear hq hn
        go_wp2
        go_round
        case rel => exact ⟨6, by go_num, .inr (.inr (.inr (.inr (.inr (.inr ⟨rfl, rfl, rfl, HN⟩)))))⟩
        case measure => simp [intOf]
    · go_wp2
      go_ret
      refine ⟨ret_int ?_, hB⟩
      have hn := hn.out
      simp only [lvSigns, opL]
      simp [hn]

theorem op_c (lv : Nat) (hlv : lv < 5) (s : ByteArray) (w : World) : Calls Tryd.prog 49 #[.int .i64 (lv : Int), .string s] w fun e w' => e = .returned (.int .u8 (opL (lvSigns lv) s.toList)) ∧ Below w.heap.size w w' := by
  match lv, hlv with
  | 0, _ => exact op_0 s w
  | 1, _ => exact op_1 s w
  | 2, _ => exact op_2 s w
  | 3, _ => exact op_3 s w
  | 4, _ => exact op_4 s w

end Go.Proofs.YtlkkigpjahlloaaDoor
