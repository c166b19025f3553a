/-
  Walks: the reference's Text: at, is, must.
-/
import Derived.Test.YtlkkigpjahlloaaDoorE6
namespace Go.Proofs.YtlkkigpjahlloaaDoor
open Go.RowKit
set_option linter.unusedVariables false

/-- The reference's reader in block bt is in the state st; its tokens are L; the text ends at E. -/
structure TxAt (w : World) (bt : Nat) (E : Int) (L : List Tok) (st : PSt) : Prop where
  ex : ∃ (v : Value) (I : Nat) (a : Int), Blk w bt 64 #[v, .int .i64 (I : Int), .int .i64 E, .int .i64 a] ∧ Sl w bt 4 v L.length (toksCells L) ∧ I ≤ L.length ∧ st.l = L.drop I ∧
    ((st.bad = none ∧ a = -1) ∨ (∃ b, st.bad = some b ∧ a = b ∧ 0 ≤ b))

theorem TxAt.keep {w w' : World} {bt : Nat} {E : Int} {L : List Tok} {st : PSt} (h : TxAt w bt E L st) (hb : Below w.heap.size w w') : TxAt w' bt E L st := by
  obtain ⟨v, I, a, h1, h2, h3, h4, h5⟩ := h.ex
  exact ⟨v, I, a, h1.below hb h1.lt, h2.below (hb.mono (Nat.le_of_lt h1.lt)), h3, h4, h5⟩
theorem TxAt.fr {S : Nat → Prop} {w w' : World} {bt : Nat} {E : Int} {L : List Tok} {st : PSt} (h : TxAt w bt E L st) (hf : Fr S w w') (hs : ∀ k, k ≤ bt → ¬ S k) : TxAt w' bt E L st := by
  obtain ⟨v, I, a, h1, h2, h3, h4, h5⟩ := h.ex
  exact ⟨v, I, a, h1.fr hf (hs bt (Nat.le_refl _)), h2.below (hf.below (Nat.le_of_lt h1.lt) (fun k hk => hs k (Nat.le_of_lt hk))), h3, h4, h5⟩
theorem TxAt.lt {w : World} {bt : Nat} {E : Int} {L : List Tok} {st : PSt} (h : TxAt w bt E L st) : bt < w.heap.size := by
  obtain ⟨v, I, a, h1, _⟩ := h.ex
  exact h1.lt

/-- Tokens as they are. -/
def TkOk (L : List Tok) : Prop := L.length ≤ 400 ∧ ∀ t ∈ L, (t.kind = 1 ∨ t.kind = 2 ∨ t.kind = 3) ∧ 0 ≤ t.at_

theorem here_drop (E : Int) (L : List Tok) (I : Nat) (b : Option Int) : (⟨L.drop I, b⟩ : PSt).here E = if h : I < L.length then (L[I]'h).at_ else E := by
  unfold PSt.here
  by_cases h : I < L.length
  · rw [dif_pos h, List.drop_eq_getElem_cons h]
  · rw [dif_neg h, List.drop_of_length_le (by omega)]

set_option maxRecDepth 100000 in
set_option maxHeartbeats 1000000 in
theorem at_c (bt : Nat) (E : Int) (L : List Tok) (hL : TkOk L) (st : PSt) (w : World) (h : TxAt w bt E L st) :
    Calls Tryd.prog 32 #[.pointer (some ⟨bt, 0, none⟩)] w fun e w' => e = .returned (.int .i64 (st.here E)) ∧ Below w.heap.size w w' := by
  obtain ⟨v, I, a, hb, hs, hI, hl, hd⟩ := h.ex
  obtain ⟨l, bad⟩ := st
  dsimp only at hl
  subst hl
  have hh := here_drop E L I bad
  have hn := hL.1
  have c0 := hb.cell 0
  have c1 := hb.cell 1
  have c2 := hb.cell 2
  by_cases hlt : I < L.length
  · rw [dif_pos hlt] at hh
    obtain ⟨b, off, cap, rfl, _, d0, d1, d2, d3⟩ := hs.tok I hlt
    have hc1 : L.length ≤ cap ∧ cap ≤ maxLen := by
      obtain ⟨_, a', cap', hv, h2, h3, _⟩ := id hs
      simp only [Value.slice.injEq] at hv
      omega
    obtain ⟨hc1, hc2⟩ := hc1
    unfold maxLen at hc2
    rw [hh]
    generalize L[I] = t at *
    obtain ⟨tk, tx, tn, ta⟩ := t
    dsimp only at d0 d1 d2 d3 ⊢
    have h0I : (0 : Int) ≤ (I : Int) := by omega
    have hlI : (I : Int) < (L.length : Int) := by omega
    generalize L.length = N at *
    clear hb hs hh hd h hL d0 d1 d2
    go_enter Tryd.func32, Tryd.ntmps32
    go_wp2
    go_quiet (fail)
    have hBq : Below w.heap.size w (w.drewN nq) := below_drewN (Below.refl _ _) _
    replace c0 : (w.drewN nq).cell? ⟨bt, 0, none⟩ = some (.slice (some ⟨b, off, none⟩) N cap) := c0
    replace c1 : (w.drewN nq).cell? ⟨bt, 1, none⟩ = some (.int .i64 (I : Int)) := c1
    replace d3 : (w.drewN nq).cell? ⟨b, off + I * 4 + 3, none⟩ = some (.int .i64 ta) := d3
    generalize w.drewN nq = W at *
    go_wp2
    go_quiet (fail)
    go_wp2
    go_ret
    exact ⟨rfl, below_drewN hBq _⟩
  · rw [dif_neg hlt] at hh
    rw [hh]
    obtain ⟨_, a', cap, rfl, _, _, _⟩ := hs
    have hlI : ¬ (I : Int) < (L.length : Int) := by omega
    generalize L.length = N at *
    clear hb hh hd h hL
    go_enter Tryd.func32, Tryd.ntmps32
    go_wp2
    go_quiet (fail)
    have hBq : Below w.heap.size w (w.drewN nq) := below_drewN (Below.refl _ _) _
    replace c2 : (w.drewN nq).cell? ⟨bt, 2, none⟩ = some (.int .i64 E) := c2
    generalize w.drewN nq = W at *
    go_wp2
    go_ret
    exact ⟨rfl, hBq⟩

/-- One token further on. -/
theorem TxAt.bump {w : World} {bt : Nat} {E : Int} {L : List Tok} {st : PSt} {v : Value} {I : Nat} {a : Int} (hb : Blk w bt 64 #[v, .int .i64 (I : Int), .int .i64 E, .int .i64 a]) (hs : Sl w bt 4 v L.length (toksCells L)) (hI : I < L.length)
    (hl : st.l = L.drop I) (hd : (st.bad = none ∧ a = -1) ∨ (∃ b, st.bad = some b ∧ a = b ∧ 0 ≤ b)) : TxAt (w.setCell ⟨bt, 1, none⟩ (.int .i64 ((I : Int) + 1))) bt E L st.next := by
  refine ⟨v, I + 1, a, ?_, hs.below ((Below.refl _ _).setCell (p := ⟨bt, 1, none⟩) (Nat.le_refl _) _), by omega, ?_, hd⟩
  · have := hb.set 1 (.int .i64 ((I : Int) + 1))
    rw [show (((I + 1 : Nat)) : Int) = (I : Int) + 1 by omega]
    exact this
  · show st.l.drop 1 = _
    rw [hl, List.drop_drop]
/-- It went wrong. -/
theorem TxAt.wrong {w : World} {bt : Nat} {E : Int} {L : List Tok} {st : PSt} {v : Value} {I : Nat} (hb : Blk w bt 64 #[v, .int .i64 (I : Int), .int .i64 E, .int .i64 (-1)]) (hs : Sl w bt 4 v L.length (toksCells L)) (hI : I ≤ L.length)
    (hl : st.l = L.drop I) (hd : st.bad = none) (hh : 0 ≤ st.here E) : TxAt (w.setCell ⟨bt, 3, none⟩ (.int .i64 (st.here E))) bt E L (st.fails E) := by
  obtain ⟨l, bad⟩ := st
  dsimp only at hd hl
  subst hd
  exact ⟨v, I, _, hb.set 3 _, hs.below ((Below.refl _ _).setCell (p := ⟨bt, 3, none⟩) (Nat.le_refl _) _), hI, hl, .inr ⟨_, rfl, rfl, hh⟩⟩
theorem here_pos {E : Int} (hE : 0 ≤ E) {L : List Tok} (hL : TkOk L) {st : PSt} {I : Nat} (hl : st.l = L.drop I) : 0 ≤ st.here E := by
  obtain ⟨l, bad⟩ := st
  dsimp only at hl
  subst hl
  rw [here_drop]
  split
  · exact (hL.2 _ (List.getElem_mem _)).2
  · exact hE

/-- How a state meets a word. -/
theorem tis_cases (L : List Tok) (hL : TkOk L) (I : Nat) (bad : Option Int) (s : ByteArray) :
    (bad.isSome = true ∧ (⟨L.drop I, bad⟩ : PSt).isB s.toList = false) ∨ (bad = none ∧ ¬ I < L.length ∧ (⟨L.drop I, bad⟩ : PSt).isB s.toList = false) ∨
    (∃ h : I < L.length, bad = none ∧ (L[I]'h).kind = 2 ∧ (⟨L.drop I, bad⟩ : PSt).isB s.toList = false) ∨
    (∃ h : I < L.length, bad = none ∧ ((L[I]'h).kind == 2) = false ∧ ((L[I]'h).text.toList == s.toList) = false ∧ (⟨L.drop I, bad⟩ : PSt).isB s.toList = false) ∨
    (∃ h : I < L.length, bad = none ∧ ((L[I]'h).kind == 2) = false ∧ (L[I]'h).text = s ∧ (⟨L.drop I, bad⟩ : PSt).isB s.toList = true) := by
  cases bad with
  | some b => exact .inl ⟨rfl, PSt.isB_bad rfl⟩
  | none =>
    by_cases hlt : I < L.length
    · have hk := (hL.2 _ (List.getElem_mem hlt)).1
      have hB : (⟨L.drop I, none⟩ : PSt).isB s.toList = (decide ((L[I]'hlt).kind ≠ 0) && (decide ((L[I]'hlt).kind ≠ 2) && decide ((L[I]'hlt).text.toList = s.toList))) := by
        unfold PSt.isB
        rw [List.drop_eq_getElem_cons hlt]
        rfl
      by_cases h2 : (L[I]'hlt).kind = 2
      · exact .inr (.inr (.inl ⟨hlt, rfl, h2, by rw [hB]; simp [h2]⟩))
      · by_cases hs : (L[I]'hlt).text = s
        · exact .inr (.inr (.inr (.inr ⟨hlt, rfl, by simpa using h2, hs, by rw [hB, hs]; simp [h2]; omega⟩)))
        · have hs' : ¬ (L[I]'hlt).text.toList = s.toList := fun h => hs ((bytes_inj _ _).1 h)
          exact .inr (.inr (.inr (.inl ⟨hlt, rfl, by simpa using h2, by simpa using hs', by rw [hB]; simp [hs']⟩)))
    · refine .inr (.inl ⟨rfl, hlt, ?_⟩)
      rw [List.drop_of_length_le (by omega)]
      rfl

set_option maxRecDepth 100000 in
set_option maxHeartbeats 4000000 in
theorem tis_c (bt : Nat) (E : Int) (L : List Tok) (hL : TkOk L) (st : PSt) (s : ByteArray) (w : World) (h : TxAt w bt E L st) :
    Calls Tryd.prog 60 #[.pointer (some ⟨bt, 0, none⟩), .string s] w fun e w' => e = .returned (.bool (st.isB s.toList)) ∧ Below w.heap.size w w' := by
  obtain ⟨v, I, a, hb, hs, hI, hl, hd⟩ := h.ex
  obtain ⟨l, bad⟩ := st
  dsimp only at hl hd
  subst hl
  have hcs := tis_cases L hL I bad s
  have hn := hL.1
  have c0 := hb.cell 0
  have c1 := hb.cell 1
  have c3 := hb.cell 3
  have h0I : (0 : Int) ≤ (I : Int) := by omega
  rcases hcs with ⟨hb1, hr⟩ | ⟨rfl, hlt, hr⟩ | ⟨hlt, rfl, hk, hr⟩ | ⟨hlt, rfl, hk, htx, hr⟩ | ⟨hlt, rfl, hk, htx, hr⟩
  · rw [hr]
    obtain ⟨b, rfl⟩ : ∃ b, bad = some b := Option.isSome_iff_exists.1 hb1
    have ha : 0 ≤ a := by rcases hd with ⟨h, _⟩ | ⟨b', h, rfl, hb'⟩; cases h; exact hb'
    have hg : decide (a < 0) = false := by rw [decide_eq_false_iff_not]; omega
    clear hr hd hs hb hL h hb1
    go_enter Tryd.func60, Tryd.ntmps60
    go_wp2
    go_quiet (fail)
    go_wp2
    go_ret
    exact ⟨rfl, below_drewN (Below.refl _ _) _⟩
  · rw [hr]
    have ha : a = -1 := by rcases hd with ⟨_, h⟩ | ⟨b', h, _⟩; exact h; cases h
    subst ha
    obtain ⟨_, a', cap, rfl, _, _, _⟩ := hs
    have hneg : decide ((-1 : Int) < 0) = true := by decide
    have hg : decide (I < L.length) = false := by rw [decide_eq_false_iff_not]; omega
    generalize L.length = N at *
    clear hr hd hb hL h hlt
    go_enter Tryd.func60, Tryd.ntmps60
    go_wp2
    go_quiet (fail)
    go_wp2
    go_ret
    exact ⟨rfl, below_drewN (Below.refl _ _) _⟩
  all_goals
    rw [hr]
    have ha : a = -1 := by rcases hd with ⟨_, h⟩ | ⟨b', h, _⟩; exact h; cases h
    subst ha
    obtain ⟨b, off, cap, rfl, _, d0, d1, d2, d3⟩ := hs.tok I hlt
    have hc1 : L.length ≤ cap ∧ cap ≤ maxLen := by
      obtain ⟨_, a', cap', hv, h2, h3, _⟩ := id hs
      simp only [Value.slice.injEq] at hv
      omega
    obtain ⟨hc1, hc2⟩ := hc1
    unfold maxLen at hc2
    have hneg : decide ((-1 : Int) < 0) = true := by decide
    have hg : decide ((I : Int) < (L.length : Int)) = true := by rw [decide_eq_true_eq]; omega
    have hlI : (I : Int) < (L.length : Int) := by omega
    generalize L[I] = t at *
    obtain ⟨tk, tx, tn, ta⟩ := t
    dsimp only at d0 d1 d2 d3 hk
    generalize L.length = N at *
    clear hr hd hb hL h hs d2 d3
  · subst hk
    have hk2 : ((2 : Int) != 2) = false := by decide
    go_enter Tryd.func60, Tryd.ntmps60
    go_wp2
    go_quiet (fail)
    go_wp2
    go_ret
    exact ⟨rfl, below_drewN (Below.refl _ _) _⟩
  · have hk2 : (tk != 2) = true := by simpa using hk
    dsimp only at htx
    go_enter Tryd.func60, Tryd.ntmps60
    go_wp2
    go_quiet (fail)
    go_wp2
    go_ret
    exact ⟨rfl, below_drewN (Below.refl _ _) _⟩
  · have hk2 : (tk != 2) = true := by simpa using hk
    dsimp only at htx
    subst htx
    have htt : (tx.toList == tx.toList) = true := by simp
    go_enter Tryd.func60, Tryd.ntmps60
    go_wp2
    go_quiet (fail)
    go_wp2
    go_ret
    exact ⟨rfl, below_drewN (Below.refl _ _) _⟩

end Go.Proofs.YtlkkigpjahlloaaDoor
