/-
  Walks of the reference's names: letter, Runes, Name.
-/
import Derived.Test.YtfieoehchghiiaaW1
import Derived.Test.YtfieoehchghiiaaL0
namespace Go.Proofs.Ytfieoehchghiiaa
open Go.RowKit
set_option linter.unusedVariables false

set_option maxHeartbeats 400000 in
theorem rletter_c (r : Int) (w : World) :
    Calls Try.prog 118 #[.int .i32 r] w fun e w' => e = .returned (.bool (letterB r)) ∧ w = w' := by
  go_enter Try.func118, Try.ntmps118
  go_wp2
  all_goals
    go_ret
    exact ⟨ret_bool (by unfold letterB; rw [Bool.eq_iff_iff]; simp; omega), rfl⟩

theorem info_i32 : (Try.prog.info? 21).map (fun i => (i.zero, i.size, i.bytes)) = some (some (.int .i32 0), 1, 4) := by kernel_rfl
theorem info_int : (Try.prog.info? 3).map (fun i => (i.zero, i.size, i.bytes)) = some (some (.int .i64 0), 1, 8) := by kernel_rfl

/-- Rows of two types lie in two blocks. -/
theorem owns_apart {w : World} {b1 b2 : Nat} {e1 e2 : TypeId} {s1 s2 n1 n2 : Nat} {v1 v2 : Value} {x1 x2 : List Value} (h1 : w.ownsRow b1 e1 s1 v1 n1 x1) (h2 : w.ownsRow b2 e2 s2 v2 n2 x2) (he : e1 ≠ e2) :
    v2.ownBlock = none ∨ v2.ownBlock ≠ v1.ownBlock := by
  rcases h2.2 with ⟨rfl, _⟩ | ⟨g2, c2, cur2, rfl, _, hg2, _⟩
  · exact .inl rfl
  · rcases h1.2 with ⟨rfl, _⟩ | ⟨g1, c1, cur1, rfl, _, hg1, _⟩
    · exact .inr (by simp [Value.ownBlock])
    · refine .inr (fun h => ?_)
      simp only [Value.ownBlock, Option.some.injEq] at h
      rw [h, hg1] at hg2
      simp only [Option.some.injEq, Obj.cells.injEq] at hg2
      exact he hg2.2.1

structure RunesRel (s : ByteArray) (w : World) (v1 v2 : Value) (wr : World) : Prop where
  ex : ∃ (pos : Nat) (l a : List Value), wr.heap[w.heap.size]? = some (.stringIter s pos) ∧ Below w.heap.size w wr ∧ w.heap.size + 1 ≤ wr.heap.size ∧
    wr.ownsRow (w.heap.size + 1) 21 1 v1 l.length l ∧ wr.ownsRow (w.heap.size + 1) 3 1 v2 a.length a ∧ l.length + (runesAt s pos).length ≤ 1000000 ∧ a.length = l.length ∧
    l ++ (runesAt s pos).map (Value.int .i32) = (runes s).map (Value.int .i32)

set_option maxHeartbeats 1000000 in
theorem Runes_c (s : ByteArray) (w : World) (hs : s.size ≤ 1000000) :
    Calls Try.prog 117 #[.string s] w fun e w' => ∃ v1 v2, e = .returned (.tuple #[v1, v2]) ∧ Sl w' w'.heap.size 1 v1 (runes s).length ((runes s).map (Value.int .i32)) ∧ Below w.heap.size w w' := by
  obtain ⟨i0, hi, hz0, hz1, hz2⟩ := info_parts info_i32
  obtain ⟨j0, ki, kz0, kz1, kz2⟩ := info_parts info_int
  go_enter Try.func117, Try.ntmps117
  go_wp2
  go_loopw [4, 5] (fun v1 v2 wr => RunesRel s w v1 v2 wr) (fun _ _ wr => s.size - wr.iterPos w.heap.size)
  case atStart => exact ⟨⟨0, [], [], heap_new_at _ _ rfl, (Below.refl _ _).alloc (Nat.le_refl _) _, by simp [World.iter], World.ownsRow_nil _ _ _ _, World.ownsRow_nil _ _ _ _, by have := runesAt_length s 0; simp; omega, rfl, rfl⟩⟩
  case round =>
    obtain ⟨pos, l, a, hit, hB, hsz, h1, h2, hl, ha, hg⟩ := hrel.ex
    by_cases hp : pos < s.size
    · have hnx : ∀ ty, (Instr.next (.pointer (some ⟨w.heap.size, 0, none⟩)) true ty).run Try.prog wr = _ := fun ty => Lib.run_next_any_at wr w.heap.size s pos ty hit hp
      have hwd := Lib.decode_width_pos s pos hp
      have hB1 := Lib.below_iterAt hB (k := w.heap.size) (Nat.le_refl _) s (pos + (Utf8.decode s pos).2)
      have hit1 := Lib.iterAt_heap wr w.heap.size s pos (pos + (Utf8.decode s pos).2) hit
      have hsz1 : w.heap.size + 1 ≤ (wr.iterAt w.heap.size s (pos + (Utf8.decode s pos).2)).heap.size := by rw [Lib.iterAt_size]; exact hsz
      have h1' := ownsRow_iterAt h1 (k := w.heap.size) (by omega) s (pos + (Utf8.decode s pos).2)
      have h2' := ownsRow_iterAt h2 (k := w.heap.size) (by omega) s (pos + (Utf8.decode s pos).2)
      rw [runesAt_step s pos hp, List.map_cons] at hg
      rw [runesAt_step s pos hp, List.length_cons] at hl
      rw [iterPos_of hit]
      generalize wr.iterAt w.heap.size s (pos + (Utf8.decode s pos).2) = W at *
      have HG := Lib.hid hg
      have HIT := Lib.hid hit1
      have HA := Lib.hid ha
      have hl2 : l.length + 1 ≤ 1000000 := by omega
      have ha2 : a.length + 1 ≤ 1000000 := by omega
      clear hg hit1 ha hit hrel
      go_upto_region 7 with (at_builtin; refine wpList_append_own _ rfl (.tmp 14) (.tmp 16) 147 rfl (w.heap.size + 1) 21 i0 (.int .i32 0) 1 4 Try.underlying147 hi hz0 hz1 hz2 rfl (by decide) u4 l.length l rfl (h1'.alloc _) ⟨W.heap.size, 0, none⟩ 1 1 [.int .i32 ((Utf8.decode s pos).1 : Int)] rfl rfl (cell_one_new _ _ _) (by simp [Value.oneCell']) (by unfold maxLen; omega) (by omega) (by simp; omega) ?_; intro v1' w1 hown1 hgrow1 _)
      have hb1 : ∀ k, u4.ownBlock = some k → w.heap.size + 1 ≤ k := fun k hk => (h1'.lt k hk).1
      have h2w := (h2'.alloc (.cells #[.int .i32 ((Utf8.decode s pos).1 : Int)] 21)).kept hgrow1 (owns_apart h1' h2' (by decide))
      have hB2 : Below w.heap.size w w1 := (hB1.alloc (by omega) _).grown hgrow1 (by simp; omega) (fun k hk => by have := hb1 k hk; omega)
      have hit2 : w1.heap[w.heap.size]? = some (.stringIter s (pos + (Utf8.decode s pos).2)) := by
        rw [hgrow1.block _ (by simp; omega) (fun e => by have := hb1 _ e.symm; omega), alloc_old _ _ _ (by omega)]; exact HIT.out
      have hsz2 : w.heap.size + 1 ≤ w1.heap.size := by have := hgrow1.size; simp at this; omega
      have hb2 : ∀ k, u5.ownBlock = some k → w.heap.size + 1 ≤ k := fun k hk => (h2w.lt k hk).1
      have HIT2 := Lib.hid hit2
      clear hit2
      go_wp2_with (at_builtin; refine wpList_append_own _ rfl (.tmp 18) (.tmp 20) 32 rfl (w.heap.size + 1) 3 j0 (.int .i64 0) 1 8 Try.underlying32 ki kz0 kz1 kz2 rfl (by decide) u5 a.length a rfl (h2w.alloc _) ⟨w1.heap.size, 0, none⟩ 1 1 [.int .i64 (pos : Int)] rfl rfl (cell_one_new _ _ _) (by simp [Value.oneCell']) (by unfold maxLen; omega) (by omega) (by simp; omega) ?_; intro v2' w2 hown2 hgrow2 _)
      have hit3 : w2.heap[w.heap.size]? = some (.stringIter s (pos + (Utf8.decode s pos).2)) := by
        rw [hgrow2.block _ (by simp; omega) (fun e => by have := hb2 _ e.symm; omega), alloc_old _ _ _ (by omega)]; exact HIT2.out
      have hB3 : Below w.heap.size w w2 := (hB2.alloc (by omega) _).grown hgrow2 (by simp; omega) (fun k hk => by have := hb2 k hk; omega)
      have hsz3 : w.heap.size + 1 ≤ w2.heap.size := by have := hgrow2.size; simp at this; omega
      have h1w := (hown1.alloc (.cells #[.int .i64 (pos : Int)] 3)).kept hgrow2 (owns_apart h2w hown1 (by decide))
      go_roundw
      case rel =>
        refine ⟨⟨pos + (Utf8.decode s pos).2, l ++ [.int .i32 ((Utf8.decode s pos).1 : Int)], a ++ [.int .i64 (pos : Int)], hit3, hB3, hsz3, ?_, ?_, ?_, ?_, ?_⟩⟩
        · simpa using h1w
        · simpa using hown2
        · simp; omega
        · simp [HA.out]
        · rw [← HG.out]; simp
      case measure =>
        rw [iterPos_of hit3]
        omega
    · have hnx : ∀ ty, (Instr.next (.pointer (some ⟨w.heap.size, 0, none⟩)) true ty).run Try.prog wr = _ := fun ty => Lib.run_next_end_at wr w.heap.size s pos ty hit hp
      rw [runesAt_end s pos hp, List.map_nil, List.append_nil] at hg
      have hS : Sl wr wr.heap.size 1 u4 (runes s).length ((runes s).map (Value.int .i32)) := by
        have := Sl.of_owns h1
        rw [hg, List.length_map] at this
        exact this
      have HS := Lib.hid hS
      clear hS hg
      go_wp2
      go_ret2
      exact ⟨_, _, rfl, HS.out, hB⟩

/-- As the reference tells a name. -/
def rlaterB (r : Int) : Bool := letterB r || decide (48 ≤ r ∧ r ≤ 57) || decide (r = 45)
def rnameB (rs : List Int) : Bool := decide (1 ≤ rs.length ∧ rs.length ≤ 24) && letterB (rs.getD 0 0) && rs.all rlaterB

theorem rlater_eq (r : Int) : laterB r = rlaterB r := by
  unfold laterB rlaterB
  cases letterB r
  · rw [Bool.eq_iff_iff]; simp
  · rfl
theorem rname_tail : ∀ (rs : List Int) (n : Nat), 0 < n → nameGo n rs = (decide (n + rs.length ≤ 24) && rs.all rlaterB)
  | [], n, h => by simp [nameGo, h]
  | r :: rs, n, h => by
    simp only [nameGo, List.length_cons, List.all_cons]
    rw [rname_tail rs (n + 1) (by omega), rlater_eq]
    cases rlaterB r
    · simp
    · have h0 : ¬ n = 0 := by omega
      have h1 : n + 1 + rs.length = n + (rs.length + 1) := by omega
      simp [h0, h1]
theorem rname_eq (s : ByteArray) : rnameB (runes s) = nameB s := by
  unfold nameB rnameB
  cases h : runes s with
  | nil => rfl
  | cons r rs =>
    simp only [nameGo, List.length_cons, List.getD_cons_zero, List.all_cons]
    rw [rname_tail rs 1 (by omega)]
    have e2 : letterB r = true → rlaterB r = true := by intro h; unfold rlaterB; rw [h]; rfl
    rw [rlater_eq]
    cases hl : letterB r
    · simp
    · rw [e2 hl]
      have h1 : (decide (1 + rs.length ≤ 24)) = decide (1 ≤ rs.length + 1 ∧ rs.length + 1 ≤ 24) := by rw [decide_eq_decide]; omega
      rw [h1]
      simp

set_option maxHeartbeats 1000000 in
theorem rName_c (s : ByteArray) (w : World) (hs : s.size ≤ 1000000) :
    Calls Try.prog 105 #[.string s] w fun e w' => e = .returned (.bool (nameB s)) ∧ Below w.heap.size w w' := by
  rw [← rname_eq]
  generalize hrs : runes s = rs
  have HRS := Lib.hid hrs
  clear hrs
  by_cases h1 : rs.length < 1
  · have HR : Hid (rnameB rs = false) := by unfold rnameB; rw [decide_eq_false (by omega)]; rfl
    go_enter Try.func105, Try.ntmps105
    go_wp2_with (go_at_call 117; refine (Runes_c _ _ hs).mono ?_; rintro e w1 ⟨v1, v2, rfl, hS, hB⟩; rw [HRS.out] at hS; obtain ⟨_, a, cap, rfl, _⟩ := hS)
    go_ret
    exact ⟨ret_bool HR.out.symm, hB⟩
  by_cases h2 : 24 < rs.length
  · have HR : Hid (rnameB rs = false) := by unfold rnameB; rw [decide_eq_false (by omega)]; rfl
    go_enter Try.func105, Try.ntmps105
    go_wp2_with (go_at_call 117; refine (Runes_c _ _ hs).mono ?_; rintro e w1 ⟨v1, v2, rfl, hS, hB⟩; rw [HRS.out] at hS; obtain ⟨_, a, cap, rfl, _⟩ := hS)
    go_ret
    exact ⟨ret_bool HR.out.symm, hB⟩
  have h3 : 0 < rs.length := by omega
  cases h4 : letterB (rs[0]'h3)
  · have HR : Hid (rnameB rs = false) := by
      unfold rnameB
      rw [show rs.getD 0 0 = rs[0]'h3 by simp [List.getD, h3], h4]; simp [Hid]
    have H4 := Lib.hid h4
    clear h4
    go_enter Try.func105, Try.ntmps105
    go_wp2_with (first
      | (go_at_call 117; refine (Runes_c _ _ hs).mono ?_; rintro e w1 ⟨v1, v2, rfl, hS, hB⟩; rw [HRS.out] at hS; obtain ⟨b, off, cap, rfl, hb, hl, c0⟩ := hS.int 0 h3; rw [Nat.add_zero] at c0)
      | (go_at_call 118; refine (rletter_c _ _).mono ?_; rintro e w1' ⟨rfl, rfl⟩; rw [H4.out]))
    go_ret
    exact ⟨ret_bool HR.out.symm, hB⟩
  · have H4 := Lib.hid h4
    clear h4
    have HE : Hid (rnameB rs = rs.all rlaterB) := by
      unfold rnameB
      rw [show rs.getD 0 0 = rs[0]'h3 by simp [List.getD, h3], H4.out, decide_eq_true (show 1 ≤ rs.length ∧ rs.length ≤ 24 by omega)]; simp [Hid]
    go_enter Try.func105, Try.ntmps105
    go_wp2_with (first
      | (go_at_call 117; refine (Runes_c _ _ hs).mono ?_; rintro e w1 ⟨v1, v2, rfl, hS, hB⟩; rw [HRS.out] at hS; obtain ⟨b, off, cap, rfl, hb, hl, c0⟩ := hS.int 0 h3; rw [Nat.add_zero] at c0; have HS := Lib.hid hS; clear hS)
      | (go_at_call 118; refine (rletter_c _ _).mono ?_; rintro e w1' ⟨rfl, rfl⟩; rw [H4.out]))
    go_loop [5] (fun i => ∃ k : Nat, i = .int .i64 k ∧ k ≤ rs.length ∧ (rs.drop k).all rlaterB = rs.all rlaterB) (fun i => rs.length - (intOf i).toNat)
    case atStart => exact ⟨0, rfl, by omega, rfl⟩
    case round =>
      obtain ⟨k, rfl, hk, hr⟩ := hrel
      by_cases hlt : k < rs.length
      · obtain ⟨b', off', cap', e', hb', hl', ck⟩ := HS.out.int k hlt
        simp only [Value.slice.injEq, Option.some.injEq, Addr.mk.injEq, true_and, and_true] at e'
        obtain ⟨⟨rfl, rfl⟩, rfl⟩ := e'
        rw [List.drop_eq_getElem_cons hlt, List.all_cons] at hr
        generalize hx : rs[k] = x at *
        have HX := Lib.hid hx
        have HR := Lib.hid hr
        clear hx hr c0
        go_wp2_with (go_at_call 118; refine (rletter_c _ _).mono ?_; rintro e w1' ⟨rfl, rfl⟩)
        all_goals first
          | (go_ret
             have hf : rlaterB x = false := by unfold rlaterB; rw [← Bool.not_eq_true]; simp_all; try omega
             exact ⟨ret_bool (by rw [HE.out, ← HR.out, hf]; rfl), hB⟩)
          | (go_round
             case rel =>
               have hf : rlaterB x = true := by unfold rlaterB; simp_all; try omega
               exact ⟨k + 1, by go_num, by omega, by rw [← HR.out, hf, Bool.true_and]⟩
             case measure => simp [intOf]; omega)
      · have e1 : rs.drop k = [] := List.drop_of_length_le (by omega)
        rw [e1] at hr
        have HR := Lib.hid hr
        clear hr e1 c0
        go_wp2
        go_ret
        exact ⟨ret_bool (by rw [HE.out, ← HR.out]; rfl), hB⟩

end Go.Proofs.Ytfieoehchghiiaa
