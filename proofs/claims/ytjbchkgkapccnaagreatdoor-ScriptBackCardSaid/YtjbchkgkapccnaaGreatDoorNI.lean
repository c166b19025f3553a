/-
  Plain: words that are joined are read as those words.
-/
import Derived.Test.YtjbchkgkapccnaaGreatDoorMN
namespace Go.Proofs.YtjbchkgkapccnaaGreatDoor
open Go.RowKit
set_option linter.unusedVariables false

theorem bt_mem (s : ByteArray) (k : Nat) (h : k < s.size) : ∃ b ∈ s.data.toList, bt s k = b.toNat := by
  have hl : k < s.data.toList.length := by rw [← Lib.size_eq]; exact h
  refine ⟨s.data.toList[k], List.getElem_mem hl, ?_⟩
  unfold bt
  rw [get_getD, List.getD_eq_getElem?_getD, List.getElem?_eq_getElem hl, Option.getD_some]
theorem low_at (s : ByteArray) : ∀ n i, s.size - i = n → ∀ k, i ≤ k → k < s.size → bt s k < 128 → (bt s k : Int) ∈ runesAt s i := by
  intro n
  induction n using Nat.strongRecOn with
  | ind n ih =>
    intro i hi k hik hk hb
    have hp : i < s.size := by omega
    have hw := Lib.decode_width_pos s i hp
    rw [runesAt_step s i hp]
    rcases dstep s i hp with ⟨h1, h2⟩ | ⟨h1, h2⟩
    · by_cases e : k = i
      · subst e
        rw [h2]; simp
      · right
        rw [h2]
        exact ih (s.size - (i + 1)) (by omega) (i + 1) rfl k (by omega) hk hb
    · right
      refine ih (s.size - (i + (Utf8.decode s i).2)) (by omega) _ rfl k ?_ hk hb
      by_cases h3 : k < i + (Utf8.decode s i).2
      · have := h2 k hik h3; omega
      · omega
theorem low_rune (s : ByteArray) (b : UInt8) (hb : b ∈ s.data.toList) (h : b.toNat < 128) : (b.toNat : Int) ∈ runes s := by
  obtain ⟨k, hk, rfl⟩ := List.mem_iff_getElem.1 hb
  have hk' : k < s.size := by rw [Lib.size_eq]; exact hk
  have e : bt s k = (s.data.toList[k]).toNat := by
    unfold bt
    rw [get_getD, List.getD_eq_getElem?_getD, List.getElem?_eq_getElem hk, Option.getD_some]
  have := low_at s _ 0 rfl k (Nat.zero_le _) hk' (by rw [e]; exact h)
  rw [e] at this
  exact this

/-- A word: no blank in it, no end of a line, no colon, nothing that may not stand there. -/
structure GoodW (u : ByteArray) : Prop where
  ne : 0 < u.size
  bytes : ∀ b ∈ u.data.toList, b ≠ 32 ∧ b ≠ 9 ∧ b ≠ 10 ∧ b ≠ 58 ∧ b ≠ 35
  runes : ∀ r ∈ runes u, badR r = false
theorem later_good (r : Int) (h : laterB r = true) : badR r = false ∧ 45 ≤ r ∧ r ≠ 58 := by
  unfold laterB letterB at h
  simp only [Bool.or_eq_true, decide_eq_true_eq] at h
  refine ⟨?_, by omega, by omega⟩
  unfold badR
  simp only [Bool.or_eq_false_iff, beq_eq_false_iff_ne, Bool.and_eq_false_iff, decide_eq_false_iff_not]
  exact ⟨by omega, .inl (by omega)⟩
theorem name_later : ∀ (rs : List Int) (n : Nat), nameGo n rs = true → (∀ r ∈ rs, laterB r = true) ∧ 0 < n + rs.length
  | [], n, h => by
    simp only [nameGo] at h
    have := of_decide_eq_true h
    exact ⟨(fun r hr => by cases hr), by rw [List.length_nil]; omega⟩
  | r :: rs, n, h => by
    simp only [nameGo] at h
    split at h
    · simp at h
    · rename_i hc
      have ih := name_later rs (n + 1) h
      refine ⟨fun q hq => ?_, by rw [List.length_cons]; omega⟩
      rcases List.mem_cons.1 hq with rfl | hq
      · cases hl : laterB q
        · exact absurd (.inr hl) hc
        · rfl
      · exact ih.1 q hq
theorem good_name {u : ByteArray} (h : nameB u = true) : GoodW u := by
  have hl := name_later _ _ h
  refine ⟨?_, fun b hb => ?_, fun r hr => (later_good r (hl.1 r hr)).1⟩
  · have h2 := hl.2
    by_cases h0 : u.size = 0
    · have : runes u = [] := runesAt_end u 0 (by omega)
      rw [this] at h2
      simp at h2
    · omega
  · by_cases h128 : b.toNat < 128
    · have := later_good _ (hl.1 _ (low_rune u b hb h128))
      have h1 := this.2.1
      have h2 := this.2.2
      refine ⟨?_, ?_, ?_, ?_, ?_⟩ <;> (rintro rfl; first | exact absurd h1 (by decide) | exact absurd h2 (by decide))
    · refine ⟨?_, ?_, ?_, ?_, ?_⟩ <;> (rintro rfl; exact h128 (by decide))
theorem good_of {u : ByteArray} (h1 : 0 < u.size) (h2 : (u.data.toList.all fun b => (b != 32) && (b != 9) && (b != 10) && (b != 58) && (b != 35)) = true) (h3 : ((runes u).all fun r => !badR r) = true) : GoodW u := by
  refine ⟨h1, fun b hb => ?_, fun r hr => ?_⟩
  · have := List.all_eq_true.1 h2 b hb
    simp only [Bool.and_eq_true, bne_iff_ne] at this
    exact ⟨this.1.1.1.1, this.1.1.1.2, this.1.1.2, this.1.2, this.2⟩
  · have := List.all_eq_true.1 h3 r hr
    simpa using this
theorem good_word (k : Int) (h1 : 1 ≤ k) (h9 : k ≤ 9) : GoodW (wordK k) := by
  have : k = 1 ∨ k = 2 ∨ k = 3 ∨ k = 4 ∨ k = 5 ∨ k = 6 ∨ k = 7 ∨ k = 8 ∨ k = 9 := by omega
  rcases this with rfl | rfl | rfl | rfl | rfl | rfl | rfl | rfl | rfl <;> exact good_of (by decide +kernel) (by decide +kernel) (by decide +kernel)
theorem good_decs : ∀ n : Nat, n < 20 → (decide (0 < (decB n).size) && ((decB n).data.toList.all fun b => (b != 32) && (b != 9) && (b != 10) && (b != 58) && (b != 35)) && ((runes (decB n)).all fun r => !badR r)) = true := by decide +kernel
theorem good_dec (n : Nat) (h : n < 20) : GoodW (decB n) := by
  have := good_decs n h
  simp only [Bool.and_eq_true, decide_eq_true_eq] at this
  exact good_of this.1.1 this.1.2 this.2

theorem runes_cons (c : UInt8) (hc : c.toNat < 128) (t : ByteArray) : runes (⟨#[c]⟩ ++ t) = (c.toNat : Int) :: runes t := by
  have hs : 0 < ((⟨#[c]⟩ : ByteArray) ++ t).size := by rw [ByteArray.size_append]; show 0 < 1 + _; omega
  have h0 : bt ((⟨#[c]⟩ : ByteArray) ++ t) 0 = c.toNat := by
    rw [bt_left _ _ _ (show 0 < 1 by decide)]
    rfl
  have hd : Utf8.decode ((⟨#[c]⟩ : ByteArray) ++ t) 0 = (c.toNat, 1) := by
    rcases dstep _ 0 hs with ⟨_, h2⟩ | ⟨_, h2⟩
    · rw [h2, h0]
    · have := h2 0 (Nat.le_refl _) (by have := Lib.decode_width_pos _ 0 hs; omega)
      omega
  unfold runes
  rw [runesAt_step _ 0 hs, hd]
  congr 1
  exact runesAt_right (⟨#[c]⟩ : ByteArray) t _ 0 rfl
def okR (s : ByteArray) : Prop := ∀ r ∈ runes s, badR r = false
theorem okR_sp (a t : ByteArray) (ha : okR a) (ht : okR t) : okR (a ++ (⟨#[32]⟩ ++ t)) := by
  intro r hr
  rw [runes_append a _ (.inr (by rw [bt_left _ _ _ (show 0 < 1 by decide)]; decide)), runes_cons 32 (by decide)] at hr
  rcases List.mem_append.1 hr with hr | hr
  · exact ha r hr
  · rcases List.mem_cons.1 hr with rfl | hr
    · rfl
    · exact ht r hr
theorem joinB_one (a : ByteArray) : joinB [a] = a := by
  unfold joinB
  rw [List.map_cons, List.map_nil, Lib.join_one]
  rfl
theorem joinB_cons (a b : ByteArray) (r : List ByteArray) : joinB (a :: b :: r) = a ++ (⟨#[32]⟩ ++ joinB (b :: r)) := by
  apply ba_ext
  unfold joinB
  rw [ba_list, ByteArray.data_append, ByteArray.data_append, Array.toList_append, Array.toList_append, ba_list, List.map_cons, List.map_cons, Lib.join_cons, Lib.join_cons]
  unfold Lib.joinTail
  simp
theorem okR_join : ∀ (ws : List ByteArray), ws ≠ [] → (∀ u ∈ ws, GoodW u) → okR (joinB ws)
  | [a], _, h => by rw [joinB_one]; exact (h a (by simp)).runes
  | a :: b :: r, _, h => by
    rw [joinB_cons]
    exact okR_sp a _ (h a (by simp)).runes (okR_join (b :: r) (by simp) (fun u hu => h u (by simp [hu])))
theorem data_sp (a t : ByteArray) : (a ++ (⟨#[32]⟩ ++ t)).data.toList = a.data.toList ++ 32 :: t.data.toList := by
  rw [ByteArray.data_append, ByteArray.data_append, Array.toList_append, Array.toList_append]
  rfl
theorem good_blank {u : ByteArray} (h : GoodW u) : (∀ b ∈ u.data.toList, blankU b = false) ∧ u.data.toList ≠ [] := by
  refine ⟨fun b hb => ?_, fun e => ?_⟩
  · obtain ⟨h1, h2, _⟩ := h.bytes b hb
    unfold blankU
    rw [Bool.or_eq_false_iff, beq_eq_false_iff_ne, beq_eq_false_iff_ne]
    exact ⟨h1, h2⟩
  · have := h.ne
    rw [Lib.size_eq, e] at this
    simp at this
/-- Words are read as they were joined, with a blank behind them or with none. -/
theorem spl_join : ∀ (ws : List ByteArray), ws ≠ [] → (∀ u ∈ ws, GoodW u) → ∀ t : List UInt8, (t = [] ∨ t = [32]) → spl [] ((joinB ws).data.toList ++ t) = ws.map (·.data.toList)
  | [a], _, h, t, ht => by
    have hg := good_blank (h a (by simp))
    rw [joinB_one, spl_run _ _ _ hg.1, List.nil_append]
    have he : a.data.toList.isEmpty = false := by
      rw [List.isEmpty_eq_false_iff]; exact hg.2
    rcases ht with rfl | rfl
    · simp only [spl, he, cond_false, List.map_cons, List.map_nil]
    · simp only [spl, he, show blankU 32 = true from rfl, cond_true, cond_false, List.isEmpty_nil, List.map_cons, List.map_nil]
  | a :: b :: r, _, h, t, ht => by
    have hg := good_blank (h a (by simp))
    have he : a.data.toList.isEmpty = false := by
      rw [List.isEmpty_eq_false_iff]; exact hg.2
    rw [joinB_cons, data_sp, List.append_assoc, spl_run _ _ _ hg.1, List.nil_append, List.cons_append]
    simp only [spl, he, show blankU 32 = true from rfl, cond_true, cond_false]
    rw [spl_join (b :: r) (by simp) (fun u hu => h u (by simp [hu])) t ht]
    rfl
theorem words_join (ws : List ByteArray) (hne : ws ≠ []) (h : ∀ u ∈ ws, GoodW u) (hs : (joinB ws).size ≤ 400) : wordsB (joinB ws) = (ws, 0) := by
  unfold wordsB
  have hb : (runes (joinB ws)).any badR = false := by
    rw [List.any_eq_false]
    intro r hr
    rw [okR_join ws hne h r hr]
    simp
  have := spl_join ws hne h [] (.inl rfl)
  rw [List.append_nil] at this
  rw [if_neg (by omega), hb, cond_false, this]
  congr 1
  rw [List.map_map]
  exact List.map_id'' (fun u => ba_of u) ws
theorem words_join_sp (ws : List ByteArray) (hne : ws ≠ []) (h : ∀ u ∈ ws, GoodW u) (hs : (joinB ws).size ≤ 399) : wordsB (joinB ws ++ ⟨#[32]⟩) = (ws, 0) := by
  unfold wordsB
  have e : joinB ws ++ ⟨#[32]⟩ = joinB ws ++ (⟨#[32]⟩ ++ ⟨#[]⟩) := by apply ba_ext; simp
  have hb : (runes (joinB ws ++ ⟨#[32]⟩)).any badR = false := by
    rw [List.any_eq_false]
    intro r hr
    rw [e] at hr
    rw [okR_sp _ _ (okR_join ws hne h) (fun r hr => by
      have : runes ⟨#[]⟩ = [] := runesAt_end _ 0 (Nat.lt_irrefl _)
      rw [this] at hr; cases hr) r hr]
    simp
  have h2 : (joinB ws ++ ⟨#[32]⟩ : ByteArray).data.toList = (joinB ws).data.toList ++ [32] := by rw [ByteArray.data_append, Array.toList_append]
  have := spl_join ws hne h [32] (.inr rfl)
  rw [if_neg (by rw [ByteArray.size_append]; show ¬ 400 < _ + 1; omega), hb, cond_false, h2, this]
  congr 1
  rw [List.map_map]
  exact List.map_id'' (fun u => ba_of u) ws
theorem join_bytes : ∀ (ws : List ByteArray), ws ≠ [] → (∀ u ∈ ws, GoodW u) → ∀ b ∈ (joinB ws).data.toList, b ≠ 10 ∧ b ≠ 58
  | [a], _, h, b, hb => by
    rw [joinB_one] at hb
    have := (h a (by simp)).bytes b hb
    exact ⟨this.2.2.1, this.2.2.2.1⟩
  | a :: c :: r, _, h, b, hb => by
    rw [joinB_cons, data_sp] at hb
    rcases List.mem_append.1 hb with hb | hb
    · have := (h a (by simp)).bytes b hb
      exact ⟨this.2.2.1, this.2.2.2.1⟩
    · rcases List.mem_cons.1 hb with rfl | hb
      · decide
      · exact join_bytes (c :: r) (by simp) (fun u hu => h u (by simp [hu])) b hb
end Go.Proofs.YtjbchkgkapccnaaGreatDoor
