/-
  Walks: script.has, number, parts, silent, words; names.Words.
  Plain: what script.Parse and script.Text tell.
  Plain: what the walk of script.Parse needs of lines, of script.line and of job.May.
  Plain: what the walk of script.Text needs.
  Plain: numbers of a job that script.Parse tells are within their kinds.
  A row of nodes that grows (script).
  A row of nodes that grows, its parts in blocks of a set (script).
-/
import Derived.Test.YtjbchkgkapccnaaGreatDoorChecked
import Derived.Test.YtjbchkgkapccnaaGreatDoorMA
import Derived.Test.YtjbchkgkapccnaaGreatDoorSF
import Derived.Test.YtjbchkgkapccnaaGreatDoorME
import Derived.Shelf.Strings.SlTrimAscii
import Derived.Lib.AtoiErrMem
import Derived.WalkSmall
import Derived.Test.YtjbchkgkapccnaaGreatDoorMJ
import Derived.Test.YtjbchkgkapccnaaGreatDoorMX
import Derived.Test.YtjbchkgkapccnaaGreatDoorMU
import Derived.Test.YtjbchkgkapccnaaGreatDoorMW
import Derived.Test.YtjbchkgkapccnaaGreatDoorMP

namespace Go.Proofs.YtjbchkgkapccnaaGreatDoor
open Go.RowKit
set_option linter.unusedVariables false
set_option linter.unusedSimpArgs false

def hasK (k : Int) : Bool := decide (2 ≤ k) && decide (k ≤ 6)
theorem hasK_c (k : Int) (w : World) : Calls Tryz.prog 22 #[.int .u8 k] w fun e w' => e = .returned (.bool (hasK k)) ∧ w = w' := by
  go_enter Tryz.func22, Tryz.ntmps22
  go_wp2
  all_goals
    go_ret
    exact ⟨ret_bool (by unfold hasK; rw [Bool.eq_iff_iff]; simp; try omega), rfl⟩

theorem strEq (s t : ByteArray) : (s.toList == t.toList) = decide (s = t) := by
  rw [Bool.eq_iff_iff, beq_iff_eq, decide_eq_true_eq]
  exact bytes_inj s t
theorem toList_nil (s : ByteArray) : s.toList = [] ↔ s.size = 0 := by
  rw [Lib.toList_data, Lib.size_eq, List.length_eq_zero_iff]
theorem empty_yes {s : ByteArray} (h : s.size = 0) : s.toList.isEmpty = true := by rw [(toList_nil s).2 h]; rfl
theorem empty_no {s : ByteArray} (h : ¬ s.size = 0) : s.toList.isEmpty = false := by
  rw [List.isEmpty_eq_false_iff]
  exact fun e => h ((toList_nil s).1 e)
theorem emptyEq (s : ByteArray) : (s.toList == ({ data := #[] } : ByteArray).toList) = decide (s.size = 0) := by
  rw [strEq, Bool.eq_iff_iff, decide_eq_true_eq, decide_eq_true_eq]
  constructor
  · rintro rfl; rfl
  · intro h
    apply ba_ext
    have : s.data.toList = [] := List.eq_nil_of_length_eq_zero (by rw [← Lib.size_eq]; exact h)
    rw [this]

theorem below_iterN (w : World) (s : ByteArray) (pos : Nat) : Below w.heap.size w (w.iter s pos) := by
  have h := (Below.refl w.heap.size w).alloc (Nat.le_refl _) (.stringIter s pos)
  exact h

set_option maxRecDepth 20000 in
set_option maxHeartbeats 1000000 in
theorem snumber_c (s : ByteArray) (most : Nat) (hm : most ≤ 18) (w : World) (hs : s.size ≤ maxLen) :
    Calls Tryz.prog 45 #[.string s, .int .i64 (most : Int)] w fun e w' => e = .returned (.tuple #[.int .i64 (numB s most).1, .bool (numB s most).2]) ∧ Below w.heap.size w w' := by
  unfold maxLen at hs
  go_enter Tryz.func45, Tryz.ntmps45
  go_wp2
  go_loopw [4] (fun n wr => ∃ (pos : Nat), wr = w.iter s pos ∧ n = .int .i64 0 ∧ allDig s pos) (fun _ wr => s.size - wr.iterPos w.heap.size)
  case atStart => exact ⟨0, rfl, rfl, allDig_zero s⟩
  case round =>
    obtain ⟨pos, rfl, rfl, hd⟩ := hrel
    by_cases hp : pos < s.size
    · have hnx : ∀ ty, (Instr.next (.pointer (some ⟨w.heap.size, 0, none⟩)) true ty).run Tryz.prog (w.iter s pos) = _ := fun ty => run_next_any w s pos ty hp
      have hwd := Lib.decode_width_pos s pos hp
      have HD := Lib.hid hd
      clear hd
      by_cases h48 : ((Utf8.decode s pos).1 : Int) < 48
      · have HB := Lib.hid (num_bad s most pos hp (.inl h48))
        go_wp2
        all_goals
          go_ret2
          rw [HB.out]
          exact ⟨rfl, below_iterN _ _ _⟩
      · by_cases h57 : 57 < ((Utf8.decode s pos).1 : Int)
        · have HB := Lib.hid (num_bad s most pos hp (.inr h57))
          go_wp2
          all_goals
            go_ret2
            rw [HB.out]
            exact ⟨rfl, below_iterN _ _ _⟩
        · have HB := Lib.hid (allDig_step s pos hp h48 h57 HD.out)
          go_wp2
          go_roundw
          case rel => exact ⟨_, rfl, rfl, HB.out⟩
          case measure => simp; omega
    · have hnx : ∀ ty, (Instr.next (.pointer (some ⟨w.heap.size, 0, none⟩)) true ty).run Tryz.prog (w.iter s pos) = _ := fun ty => run_next_end w s pos ty hp
      have ha := allDig_all s pos (by omega) hd
      have HW : Hid (Below w.heap.size w (w.iter s pos)) := below_iterN _ _ _
      have hWs : w.heap.size ≤ (w.iter s pos).heap.size := HW.out.size
      generalize w.iter s pos = W at *
      by_cases h0 : s.size = 0
      · have he := empty_yes h0
        have HB := Lib.hid (num_long s most (.inl h0))
        go_wp2
        go_ret2
        rw [HB.out]
        exact ⟨rfl, HW.out⟩
      · have he := empty_no h0
        by_cases h1 : most < s.size
        · have HB := Lib.hid (num_long s most (.inr h1))
          have h1' : (most : Int) < (s.size : Int) := by omega
          go_wp2
          go_ret2
          rw [HB.out]
          exact ⟨rfl, HW.out⟩
        · have HB := Lib.hid (num_good s most ha (by omega) (by omega))
          have h1' : ¬ (most : Int) < (s.size : Int) := by omega
          have HA := Lib.hid (atoi_dig s.data.toList ha (fun e => h0 (by rw [Lib.size_eq, e]; rfl)))
          have h18 : s.size ≤ 18 := by omega
          go_wp2_with (go_at_call 77; refine (Tryz.strconv_Atoi _ _ h18 HA.out _).mono ?_; rintro e w2 ⟨rfl, tt, hw2⟩)
          go_ret2
          refine ⟨by rw [HB.out]; rfl, HW.out.trans ?_⟩
          exact (Lib.bytesWorld_below _ _ _).mono hWs

set_option maxRecDepth 20000 in
set_option maxHeartbeats 1000000 in
theorem sparts_c (s : ByteArray) (w : World) (hs : s.size ≤ maxLen) :
    Calls Tryz.prog 43 #[.string s] w fun e w' => e = .returned (.tuple #[.string (ba (aheadL s)), .string (bif hasColon s then ba (behindL s) else { data := #[] }), .bool (hasColon s)]) ∧ Below w.heap.size w w' := by
  unfold maxLen at hs
  go_enter Tryz.func43, Tryz.ntmps43
  go_wp2
  go_loopw [2] (fun n wr => ∃ (pos : Nat), wr = w.iter s pos ∧ n = .string { data := #[] } ∧ noColon s pos) (fun _ wr => s.size - wr.iterPos w.heap.size)
  case atStart => exact ⟨0, rfl, rfl, noColon_zero s⟩
  case round =>
    obtain ⟨pos, rfl, rfl, hd⟩ := hrel
    by_cases hp : pos < s.size
    · have hnx : ∀ ty, (Instr.next (.pointer (some ⟨w.heap.size, 0, none⟩)) true ty).run Tryz.prog (w.iter s pos) = _ := fun ty => run_next_any w s pos ty hp
      have hwd := Lib.decode_width_pos s pos hp
      have HD := Lib.hid hd
      clear hd
      by_cases h58 : ((Utf8.decode s pos).1 : Int) = 58
      · have HB := Lib.hid (colon_at s pos hp h58 HD.out)
        go_upto_region 5 with fail
        go_region
        all_goals
          go_wp2
          go_ret3
          refine ⟨?_, (below_iterN w s (pos + (Utf8.decode s pos).2)).drew⟩
          obtain ⟨b1, b2, b3⟩ := HB.out
          rw [b1, ← b2, ← b3]
          rfl
      · have HB := Lib.hid (noColon_step s pos hp h58 HD.out)
        have h58' : ¬ (Utf8.decode s pos).1 = 58 := by omega
        go_wp2
        go_roundw
        case rel => exact ⟨_, rfl, rfl, HB.out⟩
        case measure => simp; omega
    · have hnx : ∀ ty, (Instr.next (.pointer (some ⟨w.heap.size, 0, none⟩)) true ty).run Tryz.prog (w.iter s pos) = _ := fun ty => run_next_end w s pos ty hp
      have HB := Lib.hid (colon_none s pos (by omega) hd)
      go_wp2
      go_ret3
      obtain ⟨b1, b2⟩ := HB.out
      refine ⟨?_, below_iterN _ _ _⟩
      rw [b1, ← b2]
      rfl

def cutS : ByteArray := { data := #[32, 9] }
theorem strim_c (s : ByteArray) (w : World) (hs : s.size ≤ 9223372036854775807) :
    Calls Tryz.prog 42 #[.string s, .string { data := #[32, 9] }] w fun e w' => e = .returned (.string (ba (Lib.trimS s.data.toList [32, 9]))) ∧ Below w.heap.size w w' :=
  Any.strings_Trim_laid Tryz.lays160 (by kernel_rfl) s cutS w hs (by decide) (ascii_of_all (by decide))
theorem strimL_c (s : ByteArray) (w : World) :
    Calls Tryz.prog 48 #[.string s, .string { data := #[32, 9] }] w fun e w' => e = .returned (.string (ba (Lib.trimLeftS s.data.toList [32, 9]))) ∧ Below w.heap.size w w' :=
  Any.strings_TrimLeft_laid Tryz.lays161 (by kernel_rfl) s cutS w (by decide) (ascii_of_all (by decide))

/-- A line that says nothing. -/
def silentB (s : ByteArray) : Bool := s.data.toList.all blankU || (s.data.toList.head? == some 35)
theorem drop_nil {p : UInt8 → Bool} : ∀ l : List UInt8, l.dropWhile p = [] ↔ l.all p = true
  | [] => by simp
  | a :: l => by
    rw [List.dropWhile_cons, List.all_cons]
    cases h : p a
    · simp
    · simp [drop_nil l]
theorem drop_all {p : UInt8 → Bool} : ∀ l : List UInt8, (l.dropWhile p).all p = true ↔ l.all p = true
  | [] => by simp
  | a :: l => by
    rw [List.dropWhile_cons]
    cases h : p a
    · simp
    · simp only [if_true, drop_all l, List.all_cons, h, Bool.true_and]
theorem in_blank : (fun b : UInt8 => ([32, 9] : List UInt8).contains b) = blankU := by
  funext b
  unfold blankU
  show (match b == 32 with | true => true | false => List.elem b [9]) = _
  cases b == 32
  · show (match b == 9 with | true => true | false => List.elem b []) = _
    cases b == 9 <;> rfl
  · rfl
theorem trim_nil (l : List UInt8) : (Lib.trimS l [32, 9] = []) ↔ l.all blankU = true := by
  unfold Lib.trimS Lib.trimLeftS Lib.trimRightS
  rw [in_blank, drop_nil, List.all_reverse, drop_all, List.all_reverse]
set_option maxRecDepth 20000 in
set_option maxHeartbeats 1000000 in
theorem ssilent_c (s : ByteArray) (w : World) (hs : s.size ≤ maxLen) :
    Calls Tryz.prog 16 #[.string s] w fun e w' => e = .returned (.bool (silentB s)) ∧ Below w.heap.size w w' := by
  unfold maxLen at hs
  have hq : ((ba (Lib.trimS s.data.toList [32, 9])).size = 0) ↔ s.data.toList.all blankU = true := by
    rw [ba_size, List.length_eq_zero_iff]
    exact trim_nil _
  cases hall : s.data.toList.all blankU
  · rw [hall] at hq
    have he' : (ba (Lib.trimS s.data.toList [32, 9])).toList.isEmpty = false := empty_no fun h => by have := hq.1 h; simp at this
    have hne : 0 < s.size := by
      rw [Lib.size_eq]
      cases hl : s.data.toList with
      | nil => rw [hl] at hall; simp at hall
      | cons a l => simp
    have HB : Hid (silentB s = (s.data.toList.head? == some 35)) := by unfold Hid silentB; rw [hall, Bool.false_or]
    have HH : Hid (s.data.toList.head? = some s[0]) := by
      unfold Hid
      rw [List.head?_eq_getElem?, List.getElem?_eq_getElem (by rw [← Lib.size_eq]; exact hne)]
      rfl
    clear hq
    go_enter Tryz.func16, Tryz.ntmps16
    go_wp2_with (go_at_call 42; refine (strim_c _ _ (by omega)).mono ?_; rintro e w2 ⟨rfl, hw2⟩)
    go_ret
    refine ⟨ret_bool ?_, hw2⟩
    rw [HB.out, HH.out, Bool.eq_iff_iff, beq_iff_eq, beq_iff_eq, Option.some.injEq]
    constructor
    · intro h
      exact UInt8.toNat_inj.1 (by show s[0].toNat = 35; omega)
    · intro h
      rw [h]; rfl
  · have he' : (ba (Lib.trimS s.data.toList [32, 9])).toList.isEmpty = true := empty_yes (hq.2 hall)
    have HB : Hid (silentB s = true) := by unfold Hid silentB; rw [hall, Bool.true_or]
    clear hq
    go_enter Tryz.func16, Tryz.ntmps16
    go_wp2_with (go_at_call 42; refine (strim_c _ _ (by omega)).mono ?_; rintro e w2 ⟨rfl, hw2⟩)
    go_ret
    rw [HB.out]
    exact ⟨rfl, hw2⟩

def wordL : List ByteArray := [{ data := #[] }, { data := #[115, 111, 117, 114, 99, 101] }, { data := #[109, 97, 112] }, { data := #[102, 105, 108, 116, 101, 114] }, { data := #[102, 108, 97, 116] }, { data := #[107, 101, 121] }, { data := #[114, 101, 100, 117, 99, 101] }, { data := #[119, 105, 110, 100, 111, 119] }, { data := #[117, 110, 105, 111, 110] }, { data := #[115, 105, 110, 107] }]
theorem kwords_c (w : World) : Calls Tryz.prog 21 #[] w fun e w' => e = .returned (.agg #[.string { data := #[] }, .string { data := #[115, 111, 117, 114, 99, 101] }, .string { data := #[109, 97, 112] }, .string { data := #[102, 105, 108, 116, 101, 114] }, .string { data := #[102, 108, 97, 116] }, .string { data := #[107, 101, 121] }, .string { data := #[114, 101, 100, 117, 99, 101] }, .string { data := #[119, 105, 110, 100, 111, 119] }, .string { data := #[117, 110, 105, 111, 110] }, .string { data := #[115, 105, 110, 107] }]) ∧ Below w.heap.size w w' := by
  go_enter Tryz.func21, Tryz.ntmps21
  go_wp2
  refine bodyPost_ret (v := .agg #[.string { data := #[] }, .string { data := #[115, 111, 117, 114, 99, 101] }, .string { data := #[109, 97, 112] }, .string { data := #[102, 105, 108, 116, 101, 114] }, .string { data := #[102, 108, 97, 116] }, .string { data := #[107, 101, 121] }, .string { data := #[114, 101, 100, 117, 99, 101] }, .string { data := #[119, 105, 110, 100, 111, 119] }, .string { data := #[117, 110, 105, 111, 110] }, .string { data := #[115, 105, 110, 107] }]) (results_cell_row rfl _ _ w.heap.size 52 _ (0, 0) _ rfl (heap_alloc_new w _) Tryz.underlying52 rfl ?_) rfl ⟨rfl, ?_⟩
  · kernel_rfl
  · exact (Below.refl _ _).alloc (Nat.le_refl _) _

theorem ret_tuple {a b : Value} {x y : Int} (h : x = y) : Ending.returned (.tuple #[a, .int .i64 x]) = .returned (.tuple #[a, .int .i64 y]) := by rw [h]
theorem info_strN : (Tryz.prog.info? 9).map (fun i => (i.zero, i.size, i.bytes)) = some (some (.string { data := #[] }), 1, 16) := by kernel_rfl
def WordsPost (s : ByteArray) (w : World) (e : Ending) (w' : World) : Prop :=
  ∃ v, e = .returned (.tuple #[v, .int .i64 (wordsB s).2]) ∧ Sl w' w'.heap.size 1 v (wordsB s).1.length ((wordsB s).1.map Value.string) ∧ Below w.heap.size w w'
structure WRel (s : ByteArray) (w : World) (v f : Value) (wr : World) : Prop where
  ex : ∃ (pos : Nat) (k : Int) (acc : List ByteArray), f = .int .i64 k ∧ wr.heap[w.heap.size]? = some (.stringIter s pos) ∧ wr.ownsRow (w.heap.size + 1) 9 1 v acc.length (acc.map Value.string) ∧
    Below w.heap.size w wr ∧ w.heap.size + 1 ≤ wr.heap.size ∧ acc.length ≤ pos ∧ pos ≤ s.size ∧ -1 ≤ k ∧ (¬ k < 0 → k.toNat < pos) ∧ wAt s pos k acc = wordsB s

set_option maxRecDepth 20000 in
set_option maxHeartbeats 4000000 in
theorem Words_c (s : ByteArray) (w : World) (hs : s.size ≤ maxLen) : Calls Tryz.prog 44 #[.string s] w (WordsPost s w) := by
  unfold maxLen at hs
  by_cases h400 : 400 < s.size
  · have h4 : (400 : Int) < (s.size : Int) := by omega
    have hP : WordsPost s w (.returned (.tuple #[.slice none 0 0, .int .i64 3])) w := by
      unfold WordsPost wordsB
      rw [if_pos h400]
      exact ⟨_, rfl, Sl.nil _ _ _, Below.refl _ _⟩
    have HP := Lib.hid hP
    clear hP
    go_enter Tryz.func44, Tryz.ntmps44
    go_wp2
    go_ret2
    exact HP.out
  · have h4 : ¬ (400 : Int) < (s.size : Int) := by omega
    obtain ⟨i0, hi, hz0, hz1, hz2⟩ := info_parts info_strN
    have HS := Lib.hid (wAt_start s h400)
    go_enter Tryz.func44, Tryz.ntmps44
    go_wp2
    go_loopw [4, 5] (fun v f wr => WRel s w v f wr) (fun _ _ wr => s.size - wr.iterPos w.heap.size)
    case atStart =>
      exact ⟨0, -1, [], rfl, heap_new_at _ _ rfl, World.ownsRow_nil _ _ _ _, (Below.refl _ _).alloc (Nat.le_refl _) _, by simp [World.iter], Nat.le_refl _, Nat.zero_le _, by omega, by omega, HS.out.symm⟩
    case round =>
      obtain ⟨pos, k, acc, rfl, hit, hown, hB, hsz, hal, hps, hk1, hk2, hg⟩ := hrel.ex
      clear hrel
      by_cases hp : pos < s.size
      · have hnx : ∀ ty, (Instr.next (.pointer (some ⟨w.heap.size, 0, none⟩)) true ty).run Tryz.prog wr = _ := fun ty => Lib.run_next_any_at wr w.heap.size s pos ty hit hp
        have hwd := Lib.decode_width_pos s pos hp
        have hwl := decode_width_le s pos hp
        have hB1 := Lib.below_iterAt hB (k := w.heap.size) (Nat.le_refl _) s (pos + (Utf8.decode s pos).2)
        have hit1 := Lib.iterAt_heap wr w.heap.size s pos (pos + (Utf8.decode s pos).2) hit
        have hsz1 : w.heap.size + 1 ≤ (wr.iterAt w.heap.size s (pos + (Utf8.decode s pos).2)).heap.size := by rw [Lib.iterAt_size]; exact hsz
        have hown1 := ownsRow_iterAt hown (k := w.heap.size) (by omega) s (pos + (Utf8.decode s pos).2)
        have hbad : badR ((Utf8.decode s pos).1 : Int) = true → wordsB s = ([], 10) := fun h => by rw [← hg, wAt_bad s pos k acc hp h]
        have hno := fun h => wAt_blank_out s pos k acc hp h
        have hin := fun h => wAt_blank_in s pos k acc hp h
        have hfi := fun h => wAt_first s pos k acc hp h
        have hmo := fun h => wAt_more s pos k acc hp h
        rw [hg] at hno hin hfi hmo
        have hps1 : pos + (Utf8.decode s pos).2 ≤ s.size := hwl
        have hpos1 : pos < pos + (Utf8.decode s pos).2 := by omega
        have HIP : Hid (wr.iterPos w.heap.size = pos) := iterPos_of hit
        generalize pos + (Utf8.decode s pos).2 = pos1 at *
        generalize hr : ((Utf8.decode s pos).1 : Int) = r at *
        generalize wr.iterAt w.heap.size s pos1 = W at *
        have HBAD := Lib.hid hbad
        have HNO := Lib.hid hno
        have HIN := Lib.hid hin
        have HFI := Lib.hid hfi
        have HMO := Lib.hid hmo
        have HIT := Lib.hid hit1
        clear hbad hno hin hfi hmo hg hit hit1 hr hwd hwl hown hB hsz
        have fin : ∀ (W' : World), Below w.heap.size w W' → badR r = true → WordsPost s w (.returned (.tuple #[.slice none 0 0, .int .i64 10])) W' := by
          intro W' hb h
          unfold WordsPost
          rw [HBAD.out h]
          exact ⟨_, rfl, Sl.nil _ _ _, hb⟩
        have FIN := Lib.hid fin
        clear fin
        by_cases cb : badR r = true
        · have fn := fun W' hb => FIN.out W' hb cb
          have hcs : r = 65533 ∨ (r ≠ 65533 ∧ r < 32 ∧ r ≠ 9) := by
            unfold badR at cb
            simp only [Bool.or_eq_true, beq_iff_eq, Bool.and_eq_true, decide_eq_true_eq, Bool.not_eq_true', beq_eq_false_iff_ne] at cb
            omega
          have FN := Lib.hid fn
          clear fn cb
          rcases hcs with c1 | ⟨c1, c2, c3⟩
          · have h1 : (r == 65533) = true := by rw [beq_iff_eq]; exact c1
            go_wp2
            go_ret2
            exact FN.out _ hB1
          · have h1 : (r == 65533) = false := by rw [beq_eq_false_iff_ne]; exact c1
            have h2 : (r == 9) = false := by rw [beq_eq_false_iff_ne]; exact c3
            go_wp2
            all_goals
              go_ret2
              exact FN.out _ hB1
        · have CB : Hid (badR r = false) := by unfold Hid; simpa using cb
          have hcs : r ≠ 65533 ∧ (r = 9 ∨ (r ≠ 9 ∧ ¬ r < 32)) := by
            unfold badR at cb
            simp only [Bool.or_eq_true, beq_iff_eq, Bool.and_eq_true, decide_eq_true_eq, Bool.not_eq_true', beq_eq_false_iff_ne] at cb
            omega
          clear cb
          obtain ⟨c1, hcs⟩ := hcs
          have h1 : (r == 65533) = false := by rw [beq_eq_false_iff_ne]; exact c1
          have hcs2 : (r = 9 ∨ r = 32) ∨ (r ≠ 9 ∧ ¬ r < 32 ∧ r ≠ 32) := by omega
          clear hcs
          rcases hcs2 with hbl | ⟨c2, c3, c4⟩
          · rcases hbl with rfl | rfl
            all_goals
              by_cases hk0 : k < 0
              · have HN := Lib.hid (HNO.out CB.out (by first | exact .inr rfl | exact .inl rfl) hk0)
                go_wp2
                go_roundw
                case rel => exact ⟨pos1, -1, acc, rfl, HIT.out, hown1, hB1, hsz1, by omega, hps1, by omega, fun h => absurd h (by omega), HN.out.symm⟩
                case measure =>
                  rw [iterPos_of HIT.out, HIP.out]
                  omega
              · have HN := Lib.hid (HIN.out CB.out (by first | exact .inr rfl | exact .inl rfl) hk0 (hk2 hk0))
                have hk3 := hk2 hk0
                obtain ⟨kn, rfl⟩ : ∃ n : Nat, k = (n : Int) := ⟨k.toNat, by omega⟩
                rw [Int.toNat_natCast] at hk3
                have hal400 : acc.length + 1 ≤ 1000000 := by omega
                go_wp2_with (at_builtin; refine wpList_append_own _ rfl _ _ 38 rfl (w.heap.size + 1) 9 i0 (.string { data := #[] }) 1 16 Tryz.underlying38 hi hz0 hz1 hz2 rfl (by decide) u4 acc.length (acc.map Value.string) rfl (hown1.alloc _) ⟨W.heap.size, 0, none⟩ 1 1 [.string (s.extract kn pos)] rfl rfl (cell_one_newJ _ _ _) (by simp [Value.oneCell']) (by unfold maxLen; omega) (by omega) (by simp; omega) ?_; intro v1' w1 hown2 hgrow _)
                have hb1 : ∀ q, u4.ownBlock = some q → w.heap.size + 1 ≤ q := fun q hq => (hown1.lt q hq).1
                have hB3 : Below w.heap.size w w1 := (hB1.alloc (by omega) _).grown hgrow (by simp; omega) (fun q hq => by have := hb1 q hq; omega)
                have hit3 : w1.heap[w.heap.size]? = some (.stringIter s pos1) := by
                  rw [hgrow.block _ (by simp; omega) (fun e => by have := hb1 _ e.symm; omega), alloc_old _ _ _ (by omega)]; exact HIT.out
                have hsz3 : w.heap.size + 1 ≤ w1.heap.size := by have := hgrow.size; simp at this; omega
                go_roundw
                case rel => exact ⟨pos1, -1, acc ++ [s.extract kn pos], rfl, hit3, by simpa using hown2, hB3, hsz3, by simp; omega, hps1, by omega, fun h => absurd h (by omega), by rw [Int.toNat_natCast] at HN; exact HN.out.symm⟩
                case measure =>
                  rw [iterPos_of hit3, HIP.out]
                  omega
          · have h2 : (r == 9) = false := by rw [beq_eq_false_iff_ne]; exact c2
            have h3 : (r == 32) = false := by rw [beq_eq_false_iff_ne]; exact c4
            by_cases hk0 : k < 0
            · have HN := Lib.hid (HFI.out CB.out c4 c2 hk0)
              go_wp2
              go_roundw
              case rel => exact ⟨pos1, (pos : Int), acc, rfl, HIT.out, hown1, hB1, hsz1, by omega, hps1, by omega, fun h => by omega, HN.out.symm⟩
              case measure =>
                rw [iterPos_of HIT.out, HIP.out]
                omega
            · have HN := Lib.hid (HMO.out CB.out c4 c2 hk0 (by have := hk2 hk0; omega))
              go_wp2
              go_roundw
              case rel => exact ⟨pos1, k, acc, rfl, HIT.out, hown1, hB1, hsz1, by omega, hps1, hk1, fun h => by have := hk2 h; omega, HN.out.symm⟩
              case measure =>
                rw [iterPos_of HIT.out, HIP.out]
                omega
      · have hnx : ∀ ty, (Instr.next (.pointer (some ⟨w.heap.size, 0, none⟩)) true ty).run Tryz.prog wr = _ := fun ty => Lib.run_next_end_at wr w.heap.size s pos ty hit hp
        obtain rfl : pos = s.size := by omega
        by_cases hk0 : k < 0
        · rw [wAt_end_out s s.size k acc (Nat.le_refl _) hk0] at hg
          have HG := Lib.hid hg
          have HO := Lib.hid (Sl.of_owns hown)
          clear hg
          go_wp2
          go_ret2
          unfold WordsPost
          rw [← HG.out]
          exact ⟨_, rfl, HO.out, hB⟩
        · have hk3 := hk2 hk0
          obtain ⟨kn, rfl⟩ : ∃ n : Nat, k = (n : Int) := ⟨k.toNat, by omega⟩
          rw [wAt_end_in s s.size kn acc (Nat.le_refl _) hk0 hk3] at hg
          rw [Int.toNat_natCast] at hg hk3
          have HG := Lib.hid hg
          clear hg
          have hal400 : acc.length + 1 ≤ 1000000 := by omega
          go_wp2_with (at_builtin; refine wpList_append_own _ rfl _ _ 38 rfl (w.heap.size + 1) 9 i0 (.string { data := #[] }) 1 16 Tryz.underlying38 hi hz0 hz1 hz2 rfl (by decide) u4 acc.length (acc.map Value.string) rfl (hown.alloc _) ⟨wr.heap.size, 0, none⟩ 1 1 [.string (s.extract kn s.size)] rfl rfl (cell_one_newJ _ _ _) (by simp [Value.oneCell']) (by unfold maxLen; omega) (by omega) (by simp; omega) ?_; intro v1' w1 hown2 hgrow _)
          have hb1 : ∀ q, u4.ownBlock = some q → w.heap.size + 1 ≤ q := fun q hq => (hown.lt q hq).1
          have hB3 : Below w.heap.size w w1 := (hB.alloc (by omega) _).grown hgrow (by simp; omega) (fun q hq => by have := hb1 q hq; omega)
          have HO := Lib.hid (Sl.of_owns hown2)
          go_ret2
          unfold WordsPost
          rw [← HG.out]
          refine ⟨_, rfl, ?_, hB3⟩
          simpa using HO.out
end Go.Proofs.YtjbchkgkapccnaaGreatDoor

namespace Go.Proofs.YtjbchkgkapccnaaGreatDoor
open Go.RowKit
set_option linter.unusedVariables false

def kindOf (u : ByteArray) : Int := max (idxZ (fun y => decide (u = y)) wordL 0) 0
theorem idxZ_lt {α : Type} (p : α → Bool) : ∀ (l : List α) (k : Nat), idxZ p l k = -1 ∨ idxZ p l k < (k : Int) + l.length
  | [], k => .inl rfl
  | y :: l, k => by
    have := idxZ_lt p l (k + 1)
    simp only [idxZ, List.length_cons]
    cases p y <;> simp only [cond_true, cond_false] <;> omega
theorem kindOf_le (u : ByteArray) : 0 ≤ kindOf u ∧ kindOf u ≤ 9 := by
  have h := idxZ_lt (fun y => decide (u = y)) wordL 0
  have hl : wordL.length = 10 := rfl
  rw [hl] at h
  refine ⟨Int.le_max_right _ _, Int.max_le.2 ⟨?_, by decide⟩⟩
  omega
def insGo (j : Jb) : List Int → List ByteArray → Option (List Int)
  | acc, [] => some acc
  | acc, u :: l => if j.find u < 0 then none else insGo j (acc ++ [j.find u]) l
def ndTail (k : Int) (r : List ByteArray) : Option (Int × List ByteArray) :=
  if k = 7 then (if r.length = 0 then none else bif (numB (r.getD (r.length - 1) .empty) 2).2 then some ((numB (r.getD (r.length - 1) .empty) 2).1, r.take (r.length - 1)) else none) else some (0, r)
/-- What script.node tells. -/
def pNd (j : Jb) (l : List ByteArray) : Option Nd := match l with
  | u :: k :: r => match ndTail (kindOf k) r with
    | none => none
    | some q => match insGo j [] q.2 with
      | none => none
      | some is => if kindOf k = 0 then none else some ⟨u, kindOf k, is, Ex.zero, q.1⟩
  | _ => none

def parW : ByteArray := { data := #[112, 97, 114] }
/-- What script.line tells. -/
def pLine (j : Jb) (s : ByteArray) (first : Bool) : Jb × Int :=
  if (wordsB (ba (aheadL s))).2 ≠ 0 then (j, (wordsB (ba (aheadL s))).2) else
  if first = true then
    match (wordsB (ba (aheadL s))).1 with
    | [a, b] => if a ≠ parW ∨ hasColon s = true then (j, 130) else bif (numB b 1).2 then (⟨(numB b 1).1, j.nodes⟩, 0) else (j, 130)
    | _ => (j, 130)
  else match pNd j (wordsB (ba (aheadL s))).1 with
    | none => (j, 130)
    | some d => if hasK d.kind ≠ hasColon s then (j, 130) else
      if hasColon s = true then
        (if (parse (ba (Lib.trimLeftS (behindL s) [32, 9]))).2.2 ≠ 0 then (j, (parse (ba (Lib.trimLeftS (behindL s) [32, 9]))).2.2)
         else (⟨j.par, j.nodes ++ [⟨d.uid, d.kind, d.ins, (parse (ba (Lib.trimLeftS (behindL s) [32, 9]))).1, d.n⟩]⟩, 0))
      else (⟨j.par, j.nodes ++ [d]⟩, 0)

def pGo : List ByteArray → Nat → Jb → List Int → Bool → Except (Int × Int) (Jb × List Int × Bool)
  | [], _, j, at_, first => .ok (j, at_, first)
  | t :: l, i, j, at_, first => bif silentB t then pGo l (i + 1) j at_ first else
    if (pLine j t first).2 ≠ 0 then .error (((i + 1 : Nat) : Int), (pLine j t first).2)
    else pGo l (i + 1) (pLine j t first).1 (bif first then at_ else at_ ++ [((i + 1 : Nat) : Int)]) false
def Jb.zero : Jb := ⟨0, []⟩
def pEnd (j : Jb) (at_ : List Int) (first : Bool) : Jb × Int × Int :=
  bif first then (Jb.zero, 0, 130) else if j.may.2 = 2 then (Jb.zero, 0, 2) else if j.may.2 ≠ 0 then (Jb.zero, at_.getD j.may.1.toNat 0, j.may.2) else (j, 0, 0)
def pRes : Except (Int × Int) (Jb × List Int × Bool) → Jb × Int × Int
  | .error q => (Jb.zero, q.1, q.2)
  | .ok q => pEnd q.1 q.2.1 q.2.2
/-- What script.Parse tells. -/
def pScript (s : ByteArray) : Jb × Int × Int := if 65536 < s.size then (Jb.zero, 0, 3) else pRes (pGo (linesB s) 0 Jb.zero [] true)

/-! ### what is told -/
def spS : ByteArray := { data := #[32] }
def nlS : ByteArray := { data := #[10] }
def colS : ByteArray := { data := #[58] }
def parS : ByteArray := { data := #[112, 97, 114, 32] }
def wordK (k : Int) : ByteArray := wordL.getD k.toNat .empty
def headW (j : Jb) (d : Nd) : List ByteArray := [d.uid, wordK d.kind] ++ d.ins.map (fun z => (j.nodes.getD z.toNat ⟨.empty, 0, [], Ex.zero, 0⟩).uid) ++ (if d.kind = 7 then [decB d.n.toNat] else [])
def tellW (j : Jb) (d : Nd) : List ByteArray := headW j d ++ (if hasK d.kind = true then [colS, d.x.told.1] else [])
def joinB (l : List ByteArray) : ByteArray := ba (Lib.join (l.map (·.data.toList)) [32])
def tellGo (j : Jb) : List Nd → ByteArray → ByteArray × Int
  | [], s => (s, 0)
  | d :: l, s => if hasK d.kind = true ∧ d.x.told.2 ≠ 0 then (.empty, d.x.told.2) else tellGo j l (s ++ (joinB (tellW j d) ++ nlS))
/-- What script.Text tells. -/
def tellJ (j : Jb) : ByteArray × Int := if j.may.2 ≠ 0 then (.empty, 2) else tellGo j j.nodes ((parS ++ decB j.par.toNat) ++ nlS)
end Go.Proofs.YtjbchkgkapccnaaGreatDoor

namespace Go.Proofs.YtjbchkgkapccnaaGreatDoor
open Go.RowKit
set_option linter.unusedVariables false

theorem splitB_size (sep : ByteArray) : ∀ (k : Nat) (s : ByteArray), ∀ x ∈ Lib.splitB sep 0 k s, x.size ≤ s.size
  | 0, s, x, hx => by simp [Lib.splitB] at hx; subst hx; exact Nat.le_refl _
  | k + 1, s, x, hx => by
    unfold Lib.splitB at hx
    split at hx
    · simp at hx; subst hx; exact Nat.le_refl _
    · rcases List.mem_cons.1 hx with rfl | hx
      · rw [ByteArray.size_extract]; omega
      · have := splitB_size sep k _ x hx
        rw [ByteArray.size_extract] at this; omega
theorem lines_len (s : ByteArray) : (linesB s).length = Lib.countB s nlB + 1 := Lib.splitB_all nlB (by decide) 0 _ s rfl
theorem lines_le (s : ByteArray) : (linesB s).length ≤ s.size + 1 := by
  rw [lines_len]
  have := Lib.countB_le nlB (by decide) s.size s (Nat.le_refl _)
  omega
theorem lines_size (s : ByteArray) : ∀ x ∈ linesB s, x.size ≤ s.size := splitB_size nlB _ s

theorem pl_first (j : Jb) (t : ByteArray) : (pLine j t true).1.nodes = j.nodes := by
  unfold pLine
  split
  · rfl
  · rw [if_pos rfl]
    split
    · split
      · rfl
      · cases (numB _ 1).2 <;> rfl
    · rfl
theorem pl_more (j : Jb) (t : ByteArray) (h : (pLine j t false).2 = 0) : (pLine j t false).1.nodes.length = j.nodes.length + 1 := by
  revert h
  unfold pLine
  split
  · intro h; contradiction
  · rw [if_neg (fun h => by cases h)]
    split
    · intro h; exact absurd h (show ¬ (130 : Int) = 0 by decide)
    · split
      · intro h; exact absurd h (show ¬ (130 : Int) = 0 by decide)
      · split
        · split
          · intro h; contradiction
          · intro _; simp
        · intro _; simp

theorem st1_at : ∀ (l : List Nd) (k : Nat) (us : List ByteArray) (r : Int × Int), st1 l k us = some r → (k : Int) ≤ r.1 ∧ r.1 < (k : Int) + l.length
  | d :: l, k, us, r, h => by
    simp only [st1] at h
    have hl : ((d :: l).length : Int) = (l.length : Int) + 1 := by simp
    rw [hl]
    cases hn : nodeB d k
    · rw [hn] at h; simp only [cond_false, Option.some.injEq] at h; subst h; dsimp only; omega
    · rw [hn] at h
      cases ht : twiceB (fun x y => decide (x = y)) (us ++ [d.uid])
      · rw [ht] at h
        have := st1_at l (k + 1) _ r h
        omega
      · rw [ht] at h; simp only [cond_true, Option.some.injEq] at h; subst h; dsimp only; omega
theorem st2_at (j : Jb) : ∀ (l : List Nd) (k : Nat) (f : Int) (ws : List Int) (r : Int × Int), st2 j l k f ws = some r → (k : Int) ≤ r.1 ∧ r.1 < (k : Int) + l.length
  | d :: l, k, f, ws, r, h => by
    simp only [st2] at h
    have hl : ((d :: l).length : Int) = (l.length : Int) + 1 := by simp
    rw [hl]
    cases hn : badB j d k (flatN d f) (wayN d ws)
    · rw [hn] at h
      have := st2_at j l (k + 1) _ _ r h
      omega
    · rw [hn] at h; simp only [cond_true, Option.some.injEq] at h; subst h; dsimp only; omega
theorem may_at (j : Jb) (h : j.may.2 ≠ 0) (h2 : j.may.2 ≠ 2) : 0 ≤ j.may.1 ∧ j.may.1 < (j.nodes.length : Int) := by
  revert h h2
  unfold Jb.may
  split
  · intro _ h; exact absurd rfl h
  · cases e1 : st1 j.nodes 0 [] with
    | some r =>
      intro _ _
      have := st1_at _ _ _ _ e1
      dsimp only; omega
    | none =>
      dsimp only
      cases e2 : st2 j j.nodes 0 0 [] with
      | some r =>
        intro _ _
        have := st2_at j _ _ _ _ _ e2
        dsimp only; omega
      | none => intro h; exact absurd rfl h
end Go.Proofs.YtjbchkgkapccnaaGreatDoor

namespace Go.Proofs.YtjbchkgkapccnaaGreatDoor
open Go.RowKit
set_option linter.unusedVariables false

theorem decode_width4N (s : ByteArray) (i : Nat) : (Utf8.decode s i).2 ≤ 4 := by
  rw [decode_eq]
  repeat' split
  all_goals simp
theorem runesAt_sizeN (s : ByteArray) : ∀ n i, s.size - i = n → s.size - i ≤ 4 * (runesAt s i).length := by
  intro n
  induction n using Nat.strongRecOn with
  | ind n ih =>
    intro i hi
    by_cases h : i < s.size
    · rw [runesAt_step s i h, List.length_cons]
      have hw := Lib.decode_width_pos s i h
      have h4 := decode_width4N s i
      have := ih (s.size - (i + (Utf8.decode s i).2)) (by omega) _ rfl
      omega
    · omega
theorem nameGo_lenN : ∀ (rs : List Int) (n : Nat), nameGo n rs = true → n + rs.length ≤ 24
  | [], n, h => by
    simp only [nameGo] at h
    have := of_decide_eq_true h
    simp
    omega
  | r :: rs, n, h => by
    simp only [nameGo] at h
    split at h
    · simp at h
    · have := nameGo_lenN rs (n + 1) h
      rw [List.length_cons]
      omega
theorem name_sizeN {u : ByteArray} (h : nameB u = true) : u.size ≤ 96 := by
  have h1 := nameGo_lenN _ _ h
  have h2 := runesAt_sizeN u _ 0 rfl
  unfold runes at h1
  omega

/-- What is known of a node of a job that may be. -/
structure NdG (j : Jb) (d : Nd) : Prop where
  name : nameB d.uid = true
  uid : d.uid.size ≤ 96
  k1 : 1 ≤ d.kind
  k9 : d.kind ≤ 9
  ins : d.ins.length ≤ 3
  insAt : ∀ z ∈ d.ins, 0 ≤ z ∧ z < (j.nodes.length : Int)
  n0 : 0 ≤ d.n
  n16 : d.n ≤ 16
  n7 : d.kind ≠ 7 → d.n = 0
  x0 : rTy d.kind = 0 → d.x.sameB (.mk 0 0 []) = true
  x1 : rTy d.kind ≠ 0 → d.x.isB (rAcc d.kind) (rTy d.kind) = true
theorem rTy_hasK (k : Int) (h1 : 1 ≤ k) (h9 : k ≤ 9) : (rTy k = 0) ↔ hasK k = false := by
  unfold rTy hasK
  have : k = 1 ∨ k = 2 ∨ k = 3 ∨ k = 4 ∨ k = 5 ∨ k = 6 ∨ k = 7 ∨ k = 8 ∨ k = 9 := by omega
  rcases this with rfl | rfl | rfl | rfl | rfl | rfl | rfl | rfl | rfl <;> decide
theorem good_nd {j : Jb} (h : j.may.2 = 0) : ∀ d ∈ j.nodes, NdG j d := by
  have g := may_good j h
  intro d hd
  obtain ⟨i, hi, rfl⟩ := List.mem_iff_getElem.1 hd
  have hn := g.node i hi
  have hin := g.ins _ hd
  unfold nodeB at hn
  simp only [Bool.and_eq_true, Bool.not_eq_true', decide_eq_false_iff_not] at hn
  obtain ⟨a1, a2, a3, a4, a5, a6, a7, a8, a9, a10⟩ := hn
  have hk : 1 ≤ (j.nodes[i]'hi).kind := by omega
  have hr : rMost (j.nodes[i]'hi).kind ≤ 3 := by unfold rMost; split <;> (try split) <;> omega
  have hN : rN (j.nodes[i]'hi).kind ≤ 16 := by unfold rN; split <;> omega
  have hM : 0 ≤ rM (j.nodes[i]'hi).kind := by unfold rM; split <;> omega
  refine ⟨a1, name_sizeN a1, hk, by omega, by omega, hin.2, by omega, by omega, fun h7 => ?_, fun h0 => ?_, fun h0 => ?_⟩
  · unfold rN at a9
    unfold rM at a8
    rw [if_neg h7] at a8 a9
    omega
  · rw [h0] at a10
    exact a10
  · have : (rTy (j.nodes[i]'hi).kind == 0) = false := by rw [beq_eq_false_iff_ne]; exact h0
    rw [this] at a10
    exact a10

theorem told_size (x : Ex) : x.told.1.size ≤ 400 := by
  unfold Ex.told
  split
  · split
    · exact Nat.zero_le _
    · show x.line.size ≤ 400
      omega
  · exact Nat.zero_le _
theorem joinTail_len (l : List (List UInt8)) (h : ∀ x ∈ l, x.length ≤ 400) : (Lib.joinTail [32] l).length ≤ 401 * l.length := by
  induction l with
  | nil => exact Nat.zero_le _
  | cons a r ih =>
    have h1 := h a (by simp)
    have h2 := ih (fun x hx => h x (by simp [hx]))
    unfold Lib.joinTail at *
    simp only [List.map_cons, List.flatten_cons, List.length_append, List.length_cons, List.length_nil]
    omega
theorem join_len (l : List (List UInt8)) (h : ∀ x ∈ l, x.length ≤ 400) : (Lib.join l [32]).length ≤ 401 * l.length := by
  cases l with
  | nil => exact Nat.zero_le _
  | cons a r =>
    rw [Lib.join_cons, List.length_append, List.length_cons]
    have h1 := h a (by simp)
    have h2 := joinTail_len r (fun x hx => h x (by simp [hx]))
    omega
theorem joinB_size (l : List ByteArray) (h : ∀ x ∈ l, x.size ≤ 400) : (joinB l).size ≤ 401 * l.length := by
  unfold joinB
  rw [ba_size]
  have := join_len (l.map (·.data.toList)) (fun x hx => by
    obtain ⟨y, hy, rfl⟩ := List.mem_map.1 hx
    rw [← Lib.size_eq]; exact h y hy)
  rwa [List.length_map] at this
theorem word_size : ∀ k : Nat, k < 10 → (wordL.getD k .empty).size ≤ 6 := by decide
theorem wordK_size (k : Int) (h1 : 1 ≤ k) (h9 : k ≤ 9) : (wordK k).size ≤ 6 := word_size k.toNat (by omega)
end Go.Proofs.YtjbchkgkapccnaaGreatDoor

namespace Go.Proofs.YtjbchkgkapccnaaGreatDoor
open Go.RowKit
set_option linter.unusedVariables false

theorem find_lt (j : Jb) (u : ByteArray) : j.find u < (j.nodes.length : Int) := by
  have := idxZ_lt (fun d : Nd => decide (d.uid = u)) j.nodes 0
  unfold Jb.find
  omega
theorem insGo_ok (j : Jb) : ∀ (l : List ByteArray) (acc is : List Int), (∀ z ∈ acc, 0 ≤ z ∧ z < (j.nodes.length : Int)) → insGo j acc l = some is → ∀ z ∈ is, 0 ≤ z ∧ z < (j.nodes.length : Int)
  | [], acc, is, h, e => by
    simp only [insGo, Option.some.injEq] at e
    subst e; exact h
  | u :: l, acc, is, h, e => by
    simp only [insGo] at e
    split at e
    · cases e
    · refine insGo_ok j l _ is (fun z hz => ?_) e
      rcases List.mem_append.1 hz with hz | hz
      · exact h z hz
      · simp at hz; subst hz
        exact ⟨by omega, find_lt j u⟩
theorem num_two (s : ByteArray) (m : Nat) (hm : m ≤ 2) : 0 ≤ (numB s m).1 ∧ (numB s m).1 ≤ 99 := by
  unfold numB
  split
  · rename_i h
    have := valU_two s.data.toList h.1 (by rw [← Lib.size_eq]; omega)
    dsimp only; omega
  · dsimp only; omega
theorem ndTail_ok (k : Int) (r : List ByteArray) (q : Int × List ByteArray) (h : ndTail k r = some q) : 0 ≤ q.1 ∧ q.1 ≤ 99 := by
  unfold ndTail at h
  split at h
  · split at h
    · cases h
    · cases hn : (numB (r.getD (r.length - 1) .empty) 2).2
      · rw [hn] at h; cases h
      · rw [hn] at h
        simp only [cond_true, Option.some.injEq] at h
        subst h
        exact num_two _ 2 (Nat.le_refl _)
  · simp only [Option.some.injEq] at h
    subst h
    dsimp only; omega
theorem zero_ok : Ex.zero.ok := ok_zero
theorem pNd_ok (j : Jb) (l : List ByteArray) (d : Nd) (hl : j.nodes.length ≤ 70000) (h : pNd j l = some d) : d.ok ∧ d.x = Ex.zero := by
  match l, h with
  | [], h => cases h
  | [_], h => cases h
  | u :: k :: r, h =>
    unfold pNd at h
    simp only at h
    split at h
    · cases h
    · rename_i q hq
      split at h
      · cases h
      · rename_i is his
        split at h
        · cases h
        · simp only [Option.some.injEq] at h
          subst h
          have hk := kindOf_le k
          have hq2 := ndTail_ok _ _ _ hq
          have hi := insGo_ok j q.2 [] is (fun z hz => by cases hz) his
          exact ⟨⟨by dsimp only; omega, by dsimp only; omega, fun z hz => by have := hi z hz; omega, zero_ok, by dsimp only; omega, by dsimp only; omega⟩, rfl⟩
theorem pLine_ok (j : Jb) (t : ByteArray) (f : Bool) (hj : j.ok) (hl : j.nodes.length ≤ 70000) : (pLine j t f).1.ok := by
  unfold pLine
  split
  · exact hj
  · split
    · split
      · split
        · exact hj
        · rename_i a b hw hn
          cases hb : (numB b 1).2
          · exact hj
          · have := num_two b 1 (by omega)
            exact ⟨show -9223372036854775808 ≤ (numB b 1).1 by omega, show (numB b 1).1 ≤ 9223372036854775807 by omega, hj.2.2⟩
      · exact hj
    · split
      · exact hj
      · rename_i d hd
        obtain ⟨h1, h2⟩ := pNd_ok j _ d hl hd
        split
        · exact hj
        · split
          · split
            · exact hj
            · refine ⟨hj.1, hj.2.1, fun e he => ?_⟩
              rcases List.mem_append.1 he with he | he
              · exact hj.2.2 e he
              · simp at he
                subst he
                exact ⟨h1.1, h1.2.1, h1.2.2.1, parse_ok _, h1.2.2.2.2.1, h1.2.2.2.2.2⟩
          · refine ⟨hj.1, hj.2.1, fun e he => ?_⟩
            rcases List.mem_append.1 he with he | he
            · exact hj.2.2 e he
            · simp at he
              subst he
              exact h1
theorem zeroJ_ok : Jb.zero.ok := ⟨by unfold Jb.zero; dsimp only; omega, by unfold Jb.zero; dsimp only; omega, fun d hd => by cases hd⟩
theorem pLine_len (j : Jb) (t : ByteArray) (f : Bool) (h : (pLine j t f).2 = 0) : (pLine j t f).1.nodes.length ≤ j.nodes.length + 1 := by
  cases f
  · exact Nat.le_of_eq (pl_more j t h)
  · rw [pl_first]; exact Nat.le_succ _
theorem pGo_ok : ∀ (L : List ByteArray) (i : Nat) (j : Jb) (a : List Int) (f : Bool), j.ok → j.nodes.length ≤ i → i + L.length ≤ 70000 → (pRes (pGo L i j a f)).1.ok
  | [], i, j, a, f, hj, hl, hi => by
    simp only [pGo, pRes, pEnd]
    cases f
    · simp only [cond_false]
      split
      · exact zeroJ_ok
      · split
        · exact zeroJ_ok
        · exact hj
    · exact zeroJ_ok
  | t :: L, i, j, a, f, hj, hl, hi => by
    rw [List.length_cons] at hi
    simp only [pGo]
    cases silentB t
    · simp only [cond_false]
      split
      · exact zeroJ_ok
      · rename_i he
        have he' : (pLine j t f).2 = 0 := by simpa using he
        exact pGo_ok L (i + 1) _ _ false (pLine_ok j t f hj (by omega)) (by have := pLine_len j t f he'; omega) (by omega)
    · simp only [cond_true]
      exact pGo_ok L (i + 1) j a f hj (by omega) (by omega)
theorem pScript_ok (s : ByteArray) : (pScript s).1.ok := by
  unfold pScript
  split
  · exact zeroJ_ok
  · have := lines_le s
    exact pGo_ok _ 0 _ _ _ zeroJ_ok (Nat.le_refl _) (by omega)
end Go.Proofs.YtjbchkgkapccnaaGreatDoor

namespace Go.Proofs.YtjbchkgkapccnaaGreatDoor
open Go.RowKit
set_option linter.unusedVariables false

/-- Places lie where the slice says, from a block's start, in a block of P. -/
def InsP (w : World) (P : Nat → Prop) (l : List Int) (v : Value) : Prop :=
  (l = [] ∧ v = .slice none 0 0) ∨ ∃ g cap, v = .slice (some ⟨g, 0, none⟩) l.length cap ∧ P g ∧ l.length ≤ cap ∧ cap ≤ maxLen ∧ ∀ j, j < l.length → w.cell? ⟨g, j, none⟩ = (l.map (Value.int .i64))[j]?
theorem InsP.keep {w w' : World} {P Q : Nat → Prop} {l : List Int} {v : Value} (h : InsP w P l v) (hPQ : ∀ b, P b → Q b) (hk : ∀ b, P b → w'.heap[b]? = w.heap[b]?) : InsP w' Q l v := by
  refine h.imp id ?_
  rintro ⟨g, cap, rfl, hp, h1, h2, h3⟩
  exact ⟨g, cap, rfl, hPQ g hp, h1, h2, fun j hj => (World.cell?_of_block (hk g hp)).trans (h3 j hj)⟩
theorem InsP.sl {w : World} {P : Nat → Prop} {B : Nat} {l : List Int} {v : Value} (h : InsP w P l v) (hP : ∀ b, P b → b < B) : Sl w B 1 v l.length (l.map (Value.int .i64)) := by
  rcases h with ⟨rfl, rfl⟩ | ⟨g, cap, rfl, hp, h1, h2, h3⟩
  · exact Sl.nil w B 1
  · exact ⟨by simp, _, cap, rfl, h1, h2, .inr ⟨g, 0, rfl, hP g hp, fun j hj => by rw [Nat.zero_add]; exact h3 j (by omega)⟩⟩
/-- What append has made of places. -/
theorem InsP.of_own {w : World} {B0 : Nat} {e : TypeId} {l : List Int} {v : Value} (h : w.ownsRow B0 e 1 v l.length (l.map (Value.int .i64))) : InsP w (fun b => B0 ≤ b ∧ b < w.heap.size) l v := by
  obtain ⟨h1, h2⟩ := h
  rcases h2 with ⟨rfl, h0⟩ | ⟨g, cap, cur, rfl, hb, hg, hn, hcp, hsz, ht⟩
  · exact .inl ⟨List.length_eq_zero_iff.1 h0, rfl⟩
  · refine .inr ⟨g, cap, rfl, ⟨hb, (Array.getElem?_eq_some_iff.1 hg).1⟩, hn, hcp, fun j hj => ?_⟩
    rw [cell_of_row w g j cur e (0, 0) hg, ← ht, List.getElem?_take, if_pos (by omega)]
    simp

/-- A row of nodes that is grown, node by node. -/
structure NRow (B0 : Nat) (wx : World) (l : List Nd) (av : Value) (cs : List Value) (ivs svs : Nat → Value) : Prop where
  own : wx.ownsRow B0 49 7 av l.length cs
  cells : ∀ i (hi : i < l.length), cs[i * 7]? = some (.string (l[i]'hi).uid) ∧ cs[i * 7 + 1]? = some (.int .u8 (l[i]'hi).kind) ∧ cs[i * 7 + 2]? = some (ivs i) ∧ cs[i * 7 + 3]? = some (.int .u8 (l[i]'hi).x.op) ∧ cs[i * 7 + 4]? = some (.int .i64 (l[i]'hi).x.n) ∧ cs[i * 7 + 5]? = some (svs i) ∧ cs[i * 7 + 6]? = some (.int .i64 (l[i]'hi).n)
  sub : ∀ i (hi : i < l.length), (l[i]'hi).uid.size ≤ maxLen ∧ InsP wx (fun b => B0 ≤ b ∧ b < wx.heap.size ∧ some b ≠ av.ownBlock) (l[i]'hi).ins (ivs i) ∧ ArgsIn wx (fun b => B0 ≤ b ∧ b < wx.heap.size ∧ some b ≠ av.ownBlock) (l[i]'hi).x.args (svs i)
theorem NRow.nil (B0 : Nat) (w : World) (ivs svs : Nat → Value) : NRow B0 w [] (.slice none 0 0) [] ivs svs := ⟨⟨by simp, .inl ⟨rfl, rfl⟩⟩, fun i hi => absurd hi (Nat.not_lt_zero _), fun i hi => absurd hi (Nat.not_lt_zero _)⟩
theorem NRow.keepB {B0 : Nat} {wx wy : World} {l : List Nd} {av : Value} {cs : List Value} {ivs svs : Nat → Value} (h : NRow B0 wx l av cs ivs svs) (hs : wx.heap.size ≤ wy.heap.size) (hk : ∀ b, B0 ≤ b → b < wx.heap.size → wy.heap[b]? = wx.heap[b]?) : NRow B0 wy l av cs ivs svs := by
  refine ⟨?_, h.cells, fun i hi => ⟨(h.sub i hi).1, (h.sub i hi).2.1.keep (fun b hb => ⟨hb.1, Nat.lt_of_lt_of_le hb.2.1 hs, hb.2.2⟩) (fun b hb => hk b hb.1 hb.2.1), (h.sub i hi).2.2.keep (fun b hb => ⟨hb.1, Nat.lt_of_lt_of_le hb.2.1 hs, hb.2.2⟩) (fun b hb => hk b hb.1 hb.2.1)⟩⟩
  obtain ⟨q1, q2⟩ := h.own
  refine ⟨q1, q2.imp id ?_⟩
  rintro ⟨g, cap, cur, hv, hb, hg, r⟩
  exact ⟨g, cap, cur, hv, hb, (hk g hb (Array.getElem?_eq_some_iff.1 hg).1).trans hg, r⟩
/-- What stands there reads as nodes. -/
theorem NRow.nodes {B0 B : Nat} {wx : World} {l : List Nd} {av : Value} {cs : List Value} {ivs svs : Nat → Value} (h : NRow B0 wx l av cs ivs svs) (hB : wx.heap.size ≤ B) : NodesAt wx B l av := by
  obtain ⟨⟨h1, h2⟩, hc, hs⟩ := h
  rcases h2 with ⟨rfl, h0⟩ | ⟨g, cap, cur, rfl, hb, hg, hn, hcp, hsz, ht⟩
  · exact ⟨none, 0, by rw [h0], by omega, Nat.zero_le _, .inl h0⟩
  · have hlt : g < wx.heap.size := (Array.getElem?_eq_some_iff.1 hg).1
    have cell : ∀ q, q < l.length * 7 → wx.cell? ⟨g, 0 + q, none⟩ = cs[q]? := fun q hq => by
      rw [Nat.zero_add, cell_of_row wx g q cur 49 (0, 0) hg, ← ht, List.getElem?_take, if_pos hq]
      simp
    refine ⟨_, cap, rfl, hn, hcp, .inr ⟨g, 0, rfl, by omega, fun j hj => ?_⟩⟩
    obtain ⟨c0, c1, c2, c3, c4, c5, c6⟩ := hc j hj
    obtain ⟨s0, s1, s2⟩ := hs j hj
    exact ⟨s0, ivs j, svs j, (cell (j * 7) (by omega)).trans c0, (cell (j * 7 + 1) (by omega)).trans c1, (cell (j * 7 + 2) (by omega)).trans c2, (cell (j * 7 + 3) (by omega)).trans c3, (cell (j * 7 + 4) (by omega)).trans c4,
      (cell (j * 7 + 5) (by omega)).trans c5, (cell (j * 7 + 6) (by omega)).trans c6, s1.sl (fun b hb => Nat.lt_of_lt_of_le hb.2.1 hB), s2.toAt (fun b hb => Nat.lt_of_lt_of_le hb.2.1 hB)⟩

/-- One more. -/
theorem NRow.snoc {B0 : Nat} {wx w4 w5 : World} {l : List Nd} {av : Value} {cs : List Value} {ivs svs : Nat → Value} {g capg : Nat} {y : Nd} {iv sv : Value} {o : Obj} (h : NRow B0 w4 l av cs ivs svs) (hx : ∀ q, av.ownBlock = some q → q < wx.heap.size) (hxs : wx.heap.size ≤ w4.heap.size) (hB : B0 ≤ wx.heap.size)
    (hu : y.uid.size ≤ maxLen) (hi : InsP w4 (fun b => wx.heap.size ≤ b ∧ b < w4.heap.size) y.ins iv) (hy : ArgsIn w4 (fun b => wx.heap.size ≤ b ∧ b < w4.heap.size) y.x.args sv) (hg : (w4.alloc o).grownBy w5 av.ownBlock) (hat : av.ownBlock = some g ∨ g = (w4.alloc o).heap.size) (hlt : g < w5.heap.size)
    (hown : w5.ownsRow B0 49 7 (.slice (some ⟨g, 0, none⟩) (l.length + 1) capg) (l.length + 1) (cs ++ [.string y.uid, .int .u8 y.kind, iv, .int .u8 y.x.op, .int .i64 y.x.n, sv, .int .i64 y.n])) :
    NRow B0 w5 (l ++ [y]) (.slice (some ⟨g, 0, none⟩) (l.length + 1) capg) (cs ++ [.string y.uid, .int .u8 y.kind, iv, .int .u8 y.x.op, .int .i64 y.x.n, sv, .int .i64 y.n]) (fun i => if i = l.length then iv else ivs i) (fun i => if i = l.length then sv else svs i) := by
  have hl : (l ++ [y]).length = l.length + 1 := by simp
  have hcl : cs.length = l.length * 7 := h.own.1
  have hsz : (w4.alloc o).heap.size = w4.heap.size + 1 := by simp
  have hgs := hg.size
  have keepB : ∀ b, b < w4.heap.size → some b ≠ av.ownBlock → w5.heap[b]? = w4.heap[b]? := fun b hb hn => (hg.block b (by omega) hn).trans (alloc_old w4 o b hb)
  have old : ∀ b, (B0 ≤ b ∧ b < w4.heap.size ∧ some b ≠ av.ownBlock) → B0 ≤ b ∧ b < w5.heap.size ∧ some b ≠ (Value.slice (some ⟨g, 0, none⟩) (l.length + 1) capg).ownBlock := fun b hb => ⟨hb.1, by have := hb.2.1; omega, by
    simp only [Value.ownBlock, ne_eq, Option.some.injEq]
    intro e
    rcases hat with h1 | h1
    · exact hb.2.2 (by rw [h1, e])
    · have := hb.2.1; omega⟩
  have new : ∀ b, (wx.heap.size ≤ b ∧ b < w4.heap.size) → B0 ≤ b ∧ b < w5.heap.size ∧ some b ≠ (Value.slice (some ⟨g, 0, none⟩) (l.length + 1) capg).ownBlock := fun b hb => ⟨by have := hb.1; omega, by have := hb.2; omega, by
    simp only [Value.ownBlock, ne_eq, Option.some.injEq]
    intro e
    rcases hat with h1 | h1
    · have := hx g h1; have := hb.1; omega
    · have := hb.2; omega⟩
  have keepN : ∀ b, (wx.heap.size ≤ b ∧ b < w4.heap.size) → w5.heap[b]? = w4.heap[b]? := fun b hb => keepB b hb.2 (fun e => by have := hx b e.symm; have := hb.1; omega)
  refine ⟨by rw [hl]; exact hown, fun i hi' => ?_, fun i hi' => ?_⟩
  · by_cases hil : i < l.length
    · obtain ⟨c0, c1, c2, c3, c4, c5, c6⟩ := h.cells i hil
      simp only [if_neg (show i ≠ l.length by omega)]
      rw [List.getElem_append_left hil]
      have ap : ∀ q u, cs[q]? = some u → (cs ++ [Value.string y.uid, .int .u8 y.kind, iv, .int .u8 y.x.op, .int .i64 y.x.n, sv, .int .i64 y.n])[q]? = some u := fun q u hq => by
        rw [List.getElem?_append_left (List.getElem?_eq_some_iff.1 hq).1]; exact hq
      exact ⟨ap _ _ c0, ap _ _ c1, ap _ _ c2, ap _ _ c3, ap _ _ c4, ap _ _ c5, ap _ _ c6⟩
    · obtain rfl : i = l.length := by omega
      rw [List.getElem_append_right (Nat.le_refl _)]
      have ap : ∀ q, (cs ++ [Value.string y.uid, .int .u8 y.kind, iv, .int .u8 y.x.op, .int .i64 y.x.n, sv, .int .i64 y.n])[l.length * 7 + q]? = [Value.string y.uid, .int .u8 y.kind, iv, .int .u8 y.x.op, .int .i64 y.x.n, sv, .int .i64 y.n][q]? := fun q => by
        rw [List.getElem?_append_right (by omega), hcl]; congr 1; omega
      have a0 := ap 0
      rw [Nat.add_zero] at a0
      simp only [Nat.sub_self, List.getElem_cons_zero, if_true]
      exact ⟨a0, ap 1, ap 2, ap 3, ap 4, ap 5, ap 6⟩
  · by_cases hil : i < l.length
    · simp only [if_neg (show i ≠ l.length by omega)]
      rw [List.getElem_append_left hil]
      obtain ⟨s0, s1, s2⟩ := h.sub i hil
      exact ⟨s0, s1.keep old (fun b hb => keepB b hb.2.1 hb.2.2), s2.keep old (fun b hb => keepB b hb.2.1 hb.2.2)⟩
    · obtain rfl : i = l.length := by omega
      rw [List.getElem_append_right (Nat.le_refl _)]
      simp only [Nat.sub_self, List.getElem_cons_zero, if_true]
      exact ⟨hu, hi.keep new keepN, hy.keep new keepN⟩

end Go.Proofs.YtjbchkgkapccnaaGreatDoor

namespace Go.Proofs.YtjbchkgkapccnaaGreatDoor
open Go.RowKit
set_option linter.unusedVariables false

/-- A row of nodes that is grown, node by node. -/
structure NRw (B0 : Nat) (P : Nat → Prop) (wx : World) (l : List Nd) (av : Value) (cs : List Value) (ivs svs : Nat → Value) : Prop where
  own : wx.ownsRow B0 49 7 av l.length cs
  cells : ∀ i (hi : i < l.length), cs[i * 7]? = some (.string (l[i]'hi).uid) ∧ cs[i * 7 + 1]? = some (.int .u8 (l[i]'hi).kind) ∧ cs[i * 7 + 2]? = some (ivs i) ∧ cs[i * 7 + 3]? = some (.int .u8 (l[i]'hi).x.op) ∧ cs[i * 7 + 4]? = some (.int .i64 (l[i]'hi).x.n) ∧ cs[i * 7 + 5]? = some (svs i) ∧ cs[i * 7 + 6]? = some (.int .i64 (l[i]'hi).n)
  sub : ∀ i (hi : i < l.length), (l[i]'hi).uid.size ≤ maxLen ∧ InsP wx (fun b => P b ∧ b < wx.heap.size ∧ some b ≠ av.ownBlock) (l[i]'hi).ins (ivs i) ∧ ArgsIn wx (fun b => P b ∧ b < wx.heap.size ∧ some b ≠ av.ownBlock) (l[i]'hi).x.args (svs i)
theorem NRw.nil (B0 : Nat) (P : Nat → Prop) (w : World) (ivs svs : Nat → Value) : NRw B0 P w [] (.slice none 0 0) [] ivs svs := ⟨⟨by simp, .inl ⟨rfl, rfl⟩⟩, fun i hi => absurd hi (Nat.not_lt_zero _), fun i hi => absurd hi (Nat.not_lt_zero _)⟩
theorem NRw.keepP {B0 : Nat} {P P' : Nat → Prop} {wx wy : World} {l : List Nd} {av : Value} {cs : List Value} {ivs svs : Nat → Value} (h : NRw B0 P wx l av cs ivs svs) (hs : wx.heap.size ≤ wy.heap.size) (ha : ∀ q, av.ownBlock = some q → wy.heap[q]? = wx.heap[q]?)
    (hk : ∀ b, P b → b < wx.heap.size → some b ≠ av.ownBlock → P' b ∧ wy.heap[b]? = wx.heap[b]?) : NRw B0 P' wy l av cs ivs svs := by
  have go : ∀ b, (P b ∧ b < wx.heap.size ∧ some b ≠ av.ownBlock) → P' b ∧ b < wy.heap.size ∧ some b ≠ av.ownBlock := fun b hb => ⟨(hk b hb.1 hb.2.1 hb.2.2).1, Nat.lt_of_lt_of_le hb.2.1 hs, hb.2.2⟩
  refine ⟨?_, h.cells, fun i hi => ⟨(h.sub i hi).1, (h.sub i hi).2.1.keep go (fun b hb => (hk b hb.1 hb.2.1 hb.2.2).2), (h.sub i hi).2.2.keep go (fun b hb => (hk b hb.1 hb.2.1 hb.2.2).2)⟩⟩
  obtain ⟨q1, q2⟩ := h.own
  refine ⟨q1, q2.imp id ?_⟩
  rintro ⟨g, cap, cur, hv, hb, hg, r⟩
  exact ⟨g, cap, cur, hv, hb, (ha g (by rw [hv]; rfl)).trans hg, r⟩
/-- What stands there reads as nodes. -/
theorem NRw.nodes {B0 B : Nat} {P : Nat → Prop} {wx : World} {l : List Nd} {av : Value} {cs : List Value} {ivs svs : Nat → Value} (h : NRw B0 P wx l av cs ivs svs) (hB : wx.heap.size ≤ B) : NodesAt wx B l av := by
  obtain ⟨⟨h1, h2⟩, hc, hs⟩ := h
  rcases h2 with ⟨rfl, h0⟩ | ⟨g, cap, cur, rfl, hb, hg, hn, hcp, hsz, ht⟩
  · exact ⟨none, 0, by rw [h0], by omega, Nat.zero_le _, .inl h0⟩
  · have hlt : g < wx.heap.size := (Array.getElem?_eq_some_iff.1 hg).1
    have cell : ∀ q, q < l.length * 7 → wx.cell? ⟨g, 0 + q, none⟩ = cs[q]? := fun q hq => by
      rw [Nat.zero_add, cell_of_row wx g q cur 49 (0, 0) hg, ← ht, List.getElem?_take, if_pos hq]
      simp
    refine ⟨_, cap, rfl, hn, hcp, .inr ⟨g, 0, rfl, by omega, fun j hj => ?_⟩⟩
    obtain ⟨c0, c1, c2, c3, c4, c5, c6⟩ := hc j hj
    obtain ⟨s0, s1, s2⟩ := hs j hj
    exact ⟨s0, ivs j, svs j, (cell (j * 7) (by omega)).trans c0, (cell (j * 7 + 1) (by omega)).trans c1, (cell (j * 7 + 2) (by omega)).trans c2, (cell (j * 7 + 3) (by omega)).trans c3, (cell (j * 7 + 4) (by omega)).trans c4,
      (cell (j * 7 + 5) (by omega)).trans c5, (cell (j * 7 + 6) (by omega)).trans c6, s1.sl (fun b hb => Nat.lt_of_lt_of_le hb.2.1 hB), s2.toAt (fun b hb => Nat.lt_of_lt_of_le hb.2.1 hB)⟩

/-- One more. -/
theorem NRw.snoc {B0 : Nat} {P P' : Nat → Prop} {wx w4 w5 : World} {l : List Nd} {av : Value} {cs : List Value} {ivs svs : Nat → Value} {g capg : Nat} {y : Nd} {iv sv : Value} {o : Obj} (h : NRw B0 P w4 l av cs ivs svs) (hPo : ∀ b, P b → P' b) (hPn : ∀ b, wx.heap.size ≤ b → b < w4.heap.size → P' b) (hx : ∀ q, av.ownBlock = some q → q < wx.heap.size) (hxs : wx.heap.size ≤ w4.heap.size) (hB : B0 ≤ wx.heap.size)
    (hu : y.uid.size ≤ maxLen) (hi : InsP w4 (fun b => wx.heap.size ≤ b ∧ b < w4.heap.size) y.ins iv) (hy : ArgsIn w4 (fun b => wx.heap.size ≤ b ∧ b < w4.heap.size) y.x.args sv) (hg : (w4.alloc o).grownBy w5 av.ownBlock) (hat : av.ownBlock = some g ∨ g = (w4.alloc o).heap.size) (hlt : g < w5.heap.size)
    (hown : w5.ownsRow B0 49 7 (.slice (some ⟨g, 0, none⟩) (l.length + 1) capg) (l.length + 1) (cs ++ [.string y.uid, .int .u8 y.kind, iv, .int .u8 y.x.op, .int .i64 y.x.n, sv, .int .i64 y.n])) :
    NRw B0 P' w5 (l ++ [y]) (.slice (some ⟨g, 0, none⟩) (l.length + 1) capg) (cs ++ [.string y.uid, .int .u8 y.kind, iv, .int .u8 y.x.op, .int .i64 y.x.n, sv, .int .i64 y.n]) (fun i => if i = l.length then iv else ivs i) (fun i => if i = l.length then sv else svs i) := by
  have hl : (l ++ [y]).length = l.length + 1 := by simp
  have hcl : cs.length = l.length * 7 := h.own.1
  have hsz : (w4.alloc o).heap.size = w4.heap.size + 1 := by simp
  have hgs := hg.size
  have keepB : ∀ b, b < w4.heap.size → some b ≠ av.ownBlock → w5.heap[b]? = w4.heap[b]? := fun b hb hn => (hg.block b (by omega) hn).trans (alloc_old w4 o b hb)
  have old : ∀ b, (P b ∧ b < w4.heap.size ∧ some b ≠ av.ownBlock) → P' b ∧ b < w5.heap.size ∧ some b ≠ (Value.slice (some ⟨g, 0, none⟩) (l.length + 1) capg).ownBlock := fun b hb => ⟨hPo b hb.1, by have := hb.2.1; omega, by
    simp only [Value.ownBlock, ne_eq, Option.some.injEq]
    intro e
    rcases hat with h1 | h1
    · exact hb.2.2 (by rw [h1, e])
    · have := hb.2.1; omega⟩
  have new : ∀ b, (wx.heap.size ≤ b ∧ b < w4.heap.size) → P' b ∧ b < w5.heap.size ∧ some b ≠ (Value.slice (some ⟨g, 0, none⟩) (l.length + 1) capg).ownBlock := fun b hb => ⟨hPn b hb.1 hb.2, by have := hb.2; omega, by
    simp only [Value.ownBlock, ne_eq, Option.some.injEq]
    intro e
    rcases hat with h1 | h1
    · have := hx g h1; have := hb.1; omega
    · have := hb.2; omega⟩
  have keepN : ∀ b, (wx.heap.size ≤ b ∧ b < w4.heap.size) → w5.heap[b]? = w4.heap[b]? := fun b hb => keepB b hb.2 (fun e => by have := hx b e.symm; have := hb.1; omega)
  refine ⟨by rw [hl]; exact hown, fun i hi' => ?_, fun i hi' => ?_⟩
  · by_cases hil : i < l.length
    · obtain ⟨c0, c1, c2, c3, c4, c5, c6⟩ := h.cells i hil
      simp only [if_neg (show i ≠ l.length by omega)]
      rw [List.getElem_append_left hil]
      have ap : ∀ q u, cs[q]? = some u → (cs ++ [Value.string y.uid, .int .u8 y.kind, iv, .int .u8 y.x.op, .int .i64 y.x.n, sv, .int .i64 y.n])[q]? = some u := fun q u hq => by
        rw [List.getElem?_append_left (List.getElem?_eq_some_iff.1 hq).1]; exact hq
      exact ⟨ap _ _ c0, ap _ _ c1, ap _ _ c2, ap _ _ c3, ap _ _ c4, ap _ _ c5, ap _ _ c6⟩
    · obtain rfl : i = l.length := by omega
      rw [List.getElem_append_right (Nat.le_refl _)]
      have ap : ∀ q, (cs ++ [Value.string y.uid, .int .u8 y.kind, iv, .int .u8 y.x.op, .int .i64 y.x.n, sv, .int .i64 y.n])[l.length * 7 + q]? = [Value.string y.uid, .int .u8 y.kind, iv, .int .u8 y.x.op, .int .i64 y.x.n, sv, .int .i64 y.n][q]? := fun q => by
        rw [List.getElem?_append_right (by omega), hcl]; congr 1; omega
      have a0 := ap 0
      rw [Nat.add_zero] at a0
      simp only [Nat.sub_self, List.getElem_cons_zero, if_true]
      exact ⟨a0, ap 1, ap 2, ap 3, ap 4, ap 5, ap 6⟩
  · by_cases hil : i < l.length
    · simp only [if_neg (show i ≠ l.length by omega)]
      rw [List.getElem_append_left hil]
      obtain ⟨s0, s1, s2⟩ := h.sub i hil
      exact ⟨s0, s1.keep old (fun b hb => keepB b hb.2.1 hb.2.2), s2.keep old (fun b hb => keepB b hb.2.1 hb.2.2)⟩
    · obtain rfl : i = l.length := by omega
      rw [List.getElem_append_right (Nat.le_refl _)]
      simp only [Nat.sub_self, List.getElem_cons_zero, if_true]
      exact ⟨hu, hi.keep new keepN, hy.keep new keepN⟩

end Go.Proofs.YtjbchkgkapccnaaGreatDoor
