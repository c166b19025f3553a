/-
  Tell: what a line is (plain); the writers.
  The reference's digits and lines.
-/
import Derived.Test.YtjbchkgkapccnaaGreatDoorME
import Derived.Test.YtjbchkgkapccnaaGreatDoorSF
import Derived.Lib.ItoaMem
import Derived.Lib.ItoaLen
import Derived.Sort.Grow
import Derived.Lib.LaidTab
import Derived.Lib.OthersKept
import Derived.Laws.IdiomStrings

namespace Go.Proofs.YtjbchkgkapccnaaGreatDoor
open Go.RowKit
set_option linter.unusedVariables false

def decB (u : Nat) : ByteArray := ⟨(Lib.decDigits u).toArray⟩
theorem decB_size (u : Nat) : (decB u).size = (Lib.decDigits u).length := by show (Lib.decDigits u).toArray.size = _; simp
theorem dec_len (u : Nat) (hu : u ≤ 9223372036854775807) : (Lib.decDigits u).length ≤ 21 := by
  have h := Lib.itoa_length_le (u : Int) (by omega) (by omega)
  rwa [Lib.itoa_nonneg] at h

def kwKey : ByteArray := { data := #[107, 101, 121] }
def kwVal : ByteArray := { data := #[118, 97, 108] }
def kwAcc : ByteArray := { data := #[97, 99, 99] }
def kwIf : ByteArray := { data := #[105, 102, 32] }
def kwThen : ByteArray := { data := #[32, 116, 104, 101, 110, 32] }
def kwElse : ByteArray := { data := #[32, 101, 108, 115, 101, 32] }
def kwOpen : ByteArray := { data := #[40] }
def kwShut : ByteArray := { data := #[41] }
def kwBlank : ByteArray := { data := #[32] }
/-- An Op's sign. -/
def sgnB (op : Int) : ByteArray :=
  if op = 5 then { data := #[45] } else if op = 6 then { data := #[33] } else if op = 7 then { data := #[43] } else if op = 8 then { data := #[45] } else if op = 9 then { data := #[42] }
  else if op = 10 then { data := #[47] } else if op = 11 then { data := #[37] } else if op = 12 then { data := #[60] } else if op = 13 then { data := #[60, 61] } else if op = 14 then { data := #[61] }
  else if op = 15 then { data := #[33, 61] } else if op = 16 then { data := #[38] } else { data := #[124] }

/-- What an Op makes of the lines of its parts. -/
def lineOp (op n : Int) (l : List ByteArray) : ByteArray :=
  if op = 1 then decB n.toNat else if op = 2 then kwKey else if op = 3 then kwVal else if op = 4 then kwAcc
  else if op = 5 ∨ op = 6 then ((kwOpen ++ sgnB op) ++ l.getD 0 kwOpen) ++ kwShut
  else if op = 18 then ((((((kwOpen ++ kwIf) ++ l.getD 0 kwOpen) ++ kwThen) ++ l.getD 1 kwOpen) ++ kwElse) ++ l.getD 2 kwOpen) ++ kwShut
  else (((kwOpen ++ l.getD 0 kwOpen) ++ ((kwBlank ++ sgnB op) ++ kwBlank)) ++ l.getD 1 kwOpen) ++ kwShut
mutual
def Ex.line : Ex → ByteArray
  | .mk o n l => lineOp o n (Exs.lines l)
def Exs.lines : List Ex → List ByteArray
  | [] => []
  | x :: l => x.line :: Exs.lines l
end
theorem Exs.lines_map : ∀ l : List Ex, Exs.lines l = l.map Ex.line
  | [] => rfl
  | x :: l => by simp only [Exs.lines, List.map_cons]; rw [Exs.lines_map l]
theorem Ex.line_eq (x : Ex) : x.line = lineOp x.op x.n (x.args.map Ex.line) := by
  obtain ⟨o, n, l⟩ := x
  simp only [Ex.line, Ex.op, Ex.n, Ex.args]
  rw [Exs.lines_map]

theorem sgnB_size (op : Int) : (sgnB op).size ≤ 2 := by
  unfold sgnB
  by_cases h5 : op = 5
  · rw [if_pos h5]; decide
  rw [if_neg h5]
  by_cases h6 : op = 6
  · rw [if_pos h6]; decide
  rw [if_neg h6]
  by_cases h7 : op = 7
  · rw [if_pos h7]; decide
  rw [if_neg h7]
  by_cases h8 : op = 8
  · rw [if_pos h8]; decide
  rw [if_neg h8]
  by_cases h9 : op = 9
  · rw [if_pos h9]; decide
  rw [if_neg h9]
  by_cases h10 : op = 10
  · rw [if_pos h10]; decide
  rw [if_neg h10]
  by_cases h11 : op = 11
  · rw [if_pos h11]; decide
  rw [if_neg h11]
  by_cases h12 : op = 12
  · rw [if_pos h12]; decide
  rw [if_neg h12]
  by_cases h13 : op = 13
  · rw [if_pos h13]; decide
  rw [if_neg h13]
  by_cases h14 : op = 14
  · rw [if_pos h14]; decide
  rw [if_neg h14]
  by_cases h15 : op = 15
  · rw [if_pos h15]; decide
  rw [if_neg h15]
  by_cases h16 : op = 16
  · rw [if_pos h16]; decide
  rw [if_neg h16]
  decide

theorem Exs.ok_mem : ∀ (l : List Ex), Exs.ok l → ∀ x ∈ l, x.ok
  | [], _, x, h => by simp at h
  | y :: l, hl, x, h => by
    rcases List.mem_cons.1 h with rfl | h
    · exact hl.1
    · exact Exs.ok_mem l hl.2 x h

/-- How long a line is at most, k levels being left. -/
theorem line_size : ∀ (k : Nat) (x : Ex), x.ok → mayB k x = true → x.line.size ≤ 30 * 4 ^ k
  | 0, x, _, h => by simp [mayB] at h
  | k + 1, x, hok, h => by
    obtain ⟨o, n, l⟩ := x
    have hn : n ≤ 9223372036854775807 := by simp only [Ex.ok] at hok; exact hok.2.2.2.1
    have hokl : Exs.ok l := by simp only [Ex.ok] at hok; exact hok.2.2.2.2
    have ho0 : 0 ≤ o := by simp only [Ex.ok] at hok; omega
    simp only [mayB, Bool.and_eq_true] at h
    obtain ⟨hs, hl⟩ := h
    simp only [Ex.args] at hl
    have hlm : ∀ i, i < l.length → ((l.map Ex.line).getD i kwOpen).size ≤ 30 * 4 ^ k := by
      intro i hi
      have hm : l[i] ∈ l := List.getElem_mem hi
      have he : (l.map Ex.line).getD i kwOpen = (l[i]).line := by simp [List.getD, hi]
      rw [he]
      have hoki : (l[i]).ok := Exs.ok_mem l hokl _ hm
      exact line_size k _ hoki (List.all_eq_true.1 hl _ hm)
    have hs' := of_decide_eq_true hs
    simp only [Ex.op, Ex.n, Ex.args] at hs'
    have hp : 1 ≤ 4 ^ k := Nat.one_le_pow _ _ (by omega)
    have hpow : 4 ^ (k + 1) = 4 * 4 ^ k := by rw [Nat.pow_succ]; omega
    rw [Ex.line_eq, hpow]
    simp only [Ex.op, Ex.n, Ex.args]
    unfold lineOp
    have hsg := sgnB_size o
    have e1 : kwOpen.size = 1 := rfl
    have e2 : kwShut.size = 1 := rfl
    have e3 : kwBlank.size = 1 := rfl
    have e4 : kwIf.size = 3 := rfl
    have e5 : kwThen.size = 6 := rfl
    have e6 : kwElse.size = 6 := rfl
    have e7 : kwKey.size = 3 := rfl
    have e8 : kwVal.size = 3 := rfl
    have e9 : kwAcc.size = 3 := rfl
    by_cases c1 : o = 1
    · rw [if_pos c1, decB_size]
      have := dec_len n.toNat (by omega)
      omega
    · rw [if_neg c1]
      by_cases c2 : o = 2
      · rw [if_pos c2]; omega
      · rw [if_neg c2]
        by_cases c3 : o = 3
        · rw [if_pos c3]; omega
        · rw [if_neg c3]
          by_cases c4 : o = 4
          · rw [if_pos c4]; omega
          · rw [if_neg c4]
            have hm : manyN o = (l.length : Int) := hs'.1
            unfold manyN at hm
            by_cases c5 : o = 5 ∨ o = 6
            · rw [if_pos c5]
              rw [if_neg (by omega), if_neg (by omega), if_pos (by omega)] at hm
              have := hlm 0 (by omega)
              simp only [ByteArray.size_append]
              omega
            · rw [if_neg c5]
              by_cases c6 : o = 18
              · rw [if_pos c6]
                rw [if_neg (by omega), if_neg (by omega), if_neg (by omega), if_pos c6] at hm
                have h0 := hlm 0 (by omega)
                have h1 := hlm 1 (by omega)
                have h2 := hlm 2 (by omega)
                simp only [ByteArray.size_append]
                omega
              · rw [if_neg c6]
                by_cases c7 : o = 0 ∨ 18 < o
                · rw [if_pos c7] at hm
                  omega
                · rw [if_neg c7, if_neg (by omega), if_neg (by omega), if_neg c6] at hm
                  have h0 := hlm 0 (by omega)
                  have h1 := hlm 1 (by omega)
                  simp only [ByteArray.size_append]
                  omega

def Pow10 (w : World) : Prop := Lib.TabIs Tryz.prog w "internal/strconv.uint64pow10" .u64 Lib.pow10Tab
theorem below_grow (w : World) (k : Nat) (os : Array Obj) : Below w.heap.size w (Go.Sort.grow (w.drewN k) os) := by
  refine ⟨rfl, rfl, rfl, ?_, fun b hb => ?_⟩
  · show w.heap.size ≤ (w.heap ++ os).size
    simp
  · show (w.heap ++ os)[b]? = w.heap[b]?
    rw [Array.getElem?_append_left hb]
theorem fmt_c (n : Nat) (hn : n ≤ 9223372036854775807) (w : World) (htab : Pow10 w) : Calls Tryz.prog 95 #[.int .i64 (n : Int), .int .i64 10] w fun e w' => e = .returned (.string (decB n)) ∧ Below w.heap.size w w' := by
  refine (Tryz.strconv_FormatInt_10 (n : Int) (by omega) (by omega) w htab).mono ?_
  rintro e w' ⟨rfl, k, os, rfl⟩
  refine ⟨?_, below_grow w k os⟩
  rw [Lib.itoa_nonneg]
  rfl

def signsV : Value := .agg #[.string { data := #[] }, .string { data := #[] }, .string { data := #[] }, .string { data := #[] }, .string { data := #[] }, .string { data := #[45] }, .string { data := #[33] }, .string { data := #[43] }, .string { data := #[45] }, .string { data := #[42] }, .string { data := #[47] }, .string { data := #[37] }, .string { data := #[60] }, .string { data := #[60, 61] }, .string { data := #[61] }, .string { data := #[33, 61] }, .string { data := #[38] }, .string { data := #[124] }]
theorem index_signs (op : Int) (h : 5 ≤ op ∧ op ≤ 17) (w : World) : (Instr.index 178 signsV (.int .u8 op)).run Tryz.prog w = .ok (.string (sgnB op)) w := by
  obtain rfl | rfl | rfl | rfl | rfl | rfl | rfl | rfl | rfl | rfl | rfl | rfl | rfl : op = 5 ∨ op = 6 ∨ op = 7 ∨ op = 8 ∨ op = 9 ∨ op = 10 ∨ op = 11 ∨ op = 12 ∨ op = 13 ∨ op = 14 ∨ op = 15 ∨ op = 16 ∨ op = 17 := by omega
  all_goals kernel_rfl
set_option maxRecDepth 100000 in
set_option maxHeartbeats 1000000 in
theorem sign_c (op : Int) (h : 5 ≤ op ∧ op ≤ 17) (w : World) : Calls Tryz.prog 96 #[.int .u8 op] w fun e w' => e = .returned (.string (sgnB op)) ∧ w = w' := by
  have hx := index_signs op h w
  clear h
  generalize sgnB op = s at hx ⊢
  unfold signsV at hx
  go_enter Tryz.func96, Tryz.ntmps96
  go_wp2
  go_ret
  exact ⟨rfl, rfl⟩

/-- What a writer in block b may turn: its own block, bytes, blocks from B on. -/
structure WF (B b : Nat) (w w' : World) : Prop where
  below : Below B w w'
  others : Lib.OthersKept 5 (some b) w w'
namespace WF
variable {B b : Nat} {w w' w'' : World}
theorem refl : WF B b w w := ⟨Below.refl _ _, Lib.OthersKept.refl _ _ _⟩
theorem trans (h : WF B b w w') (k : WF B b w' w'') : WF B b w w'' := ⟨h.below.trans k.below, h.others.trans k.others⟩
theorem new (hB : B ≤ w.heap.size) (h : Below w.heap.size w w') : WF B b w w' :=
  ⟨h.mono hB, fun k o hk _ _ => (h.block k (Array.getElem?_eq_some_iff.1 hk).1).trans hk⟩
theorem size (h : WF B b w w') : w.heap.size ≤ w'.heap.size := h.below.size
theorem blk (h : WF B b w w') {k : Nat} {t : TypeId} {cs : Array Value} (hb : Blk w k t cs) (hk : k ≠ b) (ht : t ≠ 5) : Blk w' k t cs :=
  h.others k _ hb (by simpa using hk) (fun c fz e => by injection e with _ e2; exact ht e2)
end WF

/-- The writer that counts: what it was handed is n bytes. -/
def CtAt (w : World) (b n : Nat) : Prop := Blk w b 95 #[.int .i64 (n : Int)]
set_option maxHeartbeats 400000 in
theorem cpart_c (B b n : Nat) (s : ByteArray) (w : World) (h : CtAt w b n) (hB : B ≤ b) (hn : n + s.size ≤ 140737488355328) :
    Calls Tryz.prog 196 #[.pointer (some ⟨b, 0, none⟩), .string s] w fun e w' => e = .returned (.tuple #[]) ∧ CtAt w' b (n + s.size) ∧ WF B b w w' := by
  have hb : Blk w b 95 #[.int .i64 (n : Int)] := h
  have c0 := hb.cell 0
  have f0 := hb.free 0
  have H := Lib.hid hb
  clear h hb
  go_enter Tryz.func196, Tryz.ntmps196
  go_wp2
  go_end0
  refine ⟨rfl, ?_, (Below.refl _ _).setCell (p := ⟨b, 0, none⟩) hB _, ?_⟩
  · have := H.out.set 0 (.int .i64 ((n : Int) + (s.size : Int)))
    show Blk _ b 95 _
    rw [show (((n + s.size : Nat)) : Int) = (n : Int) + (s.size : Int) by omega]
    exact this
  · intro k o hk hkb _
    exact (heap_setCell_other w ⟨b, 0, none⟩ k _ (by intro e; exact hkb (by rw [e]))).trans hk

set_option maxHeartbeats 400000 in
theorem tpart_c (B b : Nat) (acc s : ByteArray) (w : World) (h : TtAt w B b acc) (hBw : B ≤ w.heap.size) (hn : acc.size + s.size ≤ 140737488355328) :
    Calls Tryz.prog 197 #[.pointer (some ⟨b, 0, none⟩), .string s] w fun e w' => e = .returned (.tuple #[]) ∧ TtAt w' B b (acc ++ s) ∧ WF B b w w' := by
  have hc := write_c B b (Lib.byteCells acc.data.toList) s w h (by rw [Lib.byteCells, List.length_map]; exact hn) hBw
  have HC := Lib.hid hc
  clear hc h
  go_enter Tryz.func197, Tryz.ntmps197
  go_wp2_with fail
  refine HC.out.mono ?_
  rintro e w' ⟨⟨v, rfl⟩, h1, h2, h3⟩
  go_wp2_with fail
  go_end0
  refine ⟨rfl, ?_, h2, h3⟩
  have he : Lib.byteCells acc.data.toList ++ Lib.strCells s = Lib.byteCells (acc ++ s).data.toList := by
    rw [ByteArray.data_append, Array.toList_append]
    simp [Lib.byteCells, Lib.strCells]
  rw [he] at h1
  exact .inr h1

end Go.Proofs.YtjbchkgkapccnaaGreatDoor

namespace Go.Proofs.YtjbchkgkapccnaaGreatDoor
open Go.RowKit
set_option linter.unusedVariables false

theorem decB_one {u : Nat} (h : u < 10) : decB u = { data := #[UInt8.ofNat (48 + u)] } := by
  unfold decB
  rw [Lib.decDigits_one h]
theorem decB_more {u : Nat} (h : ¬ u < 10) : decB u = decB (u / 10) ++ decB (u % 10) := by
  rw [decB_one (Nat.mod_lt u (by omega))]
  unfold decB
  rw [Lib.decDigits, dif_neg h]
  apply ByteArray.ext
  simp

set_option maxRecDepth 100000 in
set_option maxHeartbeats 1000000 in
theorem digits_c (u : Nat) : u ≤ 9223372036854775807 → ∀ w, Calls Tryz.prog 26 #[.int .i64 (u : Int)] w fun e w' => e = .returned (.string (decB u)) ∧ Below w.heap.size w w' := by
  induction u using Nat.strongRecOn with
  | ind u ih =>
    intro hu w
    by_cases h : u < 10
    · have hlt : (u : Int) < 10 := by omega
      have hc : (convert 68 9 (.slice (some ⟨w.heap.size, 0, none⟩) 1 1)).run Tryz.prog (w.alloc (.cells #[.int .u8 (48 + (u : Int))] 5)) = .ok (.string (decB u)) (w.alloc (.cells #[.int .u8 (48 + (u : Int))] 5)) := by
        rw [decB_one h]
        refine run_convert_bytes_back (w.alloc (.cells #[.int .u8 (48 + (u : Int))] 5)) 68 9 5 ⟨w.heap.size, 0, none⟩ 1 [UInt8.ofNat (48 + u)] (by kernel_rfl) (by kernel_rfl) (by kernel_rfl) ?_
        intro j hj
        obtain rfl : j = 0 := by simpa using hj
        have := (Blk.new w #[.int .u8 (48 + (u : Int))] 5).cell 0
        show (w.alloc _).cell? ⟨w.heap.size, 0, none⟩ = _
        rw [this]
        have e1 : (UInt8.ofNat (48 + u)).toNat = 48 + u := by
          rw [UInt8.toNat_ofNat']
          omega
        simp
        omega
      have hb : Below w.heap.size w (w.alloc (.cells #[.int .u8 (48 + (u : Int))] 5)) := (Below.refl _ _).alloc (Nat.le_refl _) _
      have HD : Hid (decB u = decB u) := rfl
      generalize decB u = r at *
      clear ih HD
      go_enter Tryz.func26, Tryz.ntmps26
      go_wp2
      go_ret
      exact ⟨rfl, hb⟩
    · have hlt : ¬ (u : Int) < 10 := by omega
      have HA := Lib.hid (ih (u / 10) (by omega) (by omega))
      have HB := Lib.hid (ih (u % 10) (by omega) (by omega))
      have HD := Lib.hid (decB_more h)
      have s1 : (decB (u / 10)).size ≤ 21 := by rw [decB_size]; exact dec_len _ (by omega)
      have s2 : (decB (u % 10)).size ≤ 21 := by rw [decB_size]; exact dec_len _ (by omega)
      clear ih
      go_enter Tryz.func26, Tryz.ntmps26
      go_wp2_with fail
      rw [show (u : Int) / 10 = ((u / 10 : Nat) : Int) by omega]
      refine (HA.out w).mono ?_
      rintro e w1 ⟨rfl, h1⟩
      go_wp2_with fail
      rw [show (u : Int) % 10 = ((u % 10 : Nat) : Int) by omega]
      refine (HB.out w1).mono ?_
      rintro e w2 ⟨rfl, h2⟩
      go_wp2_with fail
      go_ret
      exact ⟨by rw [HD.out]; rfl, h1.trans (h2.mono h1.size)⟩

end Go.Proofs.YtjbchkgkapccnaaGreatDoor
