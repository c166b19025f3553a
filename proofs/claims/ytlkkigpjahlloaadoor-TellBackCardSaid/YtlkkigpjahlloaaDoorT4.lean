/-
  What is read is an expression with numbers within their kinds (plain).
-/
import Derived.Test.YtlkkigpjahlloaaDoorP9
namespace Go.Proofs.YtlkkigpjahlloaaDoor

def NB (l : List Tok) : Prop := ∀ t ∈ l, 0 ≤ t.n ∧ t.n ≤ 9223372036854775807
theorem numGo_hi : ∀ (rs : List Int) (n m : Int), n ≤ 9223372036854775807 → numGo n rs = some m → m ≤ 9223372036854775807
  | [], n, m, hn, h => by simp only [numGo, Option.some.injEq] at h; omega
  | r :: rs, n, m, hn, h => by
    simp only [numGo] at h
    split at h
    · simp at h
    · exact numGo_hi rs _ m (by omega) h
theorem endTok_hi {t : Tok} (h : t.n ≤ 9223372036854775807) {out o : List Tok} (ho : ∀ u ∈ out, u.n ≤ 9223372036854775807) (he : endTok t out = some o) : ∀ u ∈ o, u.n ≤ 9223372036854775807 := by
  unfold endTok at he
  by_cases hk : t.kind = 2
  · rw [if_pos hk] at he
    cases hm : numGo 0 (runes t.text) with
    | none => rw [hm] at he; simp at he
    | some m =>
      rw [hm] at he
      simp only [Option.some.injEq] at he
      subst he
      intro u hu
      rcases List.mem_append.1 hu with hu | hu
      · exact ho u hu
      · simp only [List.mem_singleton] at hu
        subst hu
        exact numGo_hi _ 0 m (by omega) hm
  · rw [if_neg hk] at he
    by_cases h0 : t.kind = 0
    · rw [if_pos h0] at he
      simp only [Option.some.injEq] at he
      subst he
      exact ho
    · rw [if_neg h0] at he
      simp only [Option.some.injEq] at he
      subst he
      intro u hu
      rcases List.mem_append.1 hu with hu | hu
      · exact ho u hu
      · simp only [List.mem_singleton] at hu
        subst hu
        exact h
theorem tokGo_hi : ∀ (rs : List Int) (t : Tok) (pos : Int) (out : List Tok), t.n ≤ 9223372036854775807 → (∀ u ∈ out, u.n ≤ 9223372036854775807) → ∀ u ∈ (tokGo t pos out rs).1, u.n ≤ 9223372036854775807
  | [], t, pos, out, ht, ho => by
    simp only [tokGo]
    cases he : endTok t out with
    | none => simp
    | some o => exact endTok_hi ht ho he
  | r :: rs, t, pos, out, ht, ho => by
    simp only [tokGo]
    split
    · exact tokGo_hi rs _ _ _ ht ho
    · cases he : endTok t out with
      | none => simp
      | some o =>
        dsimp only
        have ho2 := endTok_hi ht ho he
        split
        · exact tokGo_hi rs _ _ _ (by decide) ho2
        · split
          · simp
          · exact tokGo_hi rs _ _ _ (by show (0 : Int) ≤ _; omega) ho2
theorem toks_nb (s : ByteArray) : NB (toks s).1 := by
  intro t ht
  refine ⟨((toks_wf s).1 t ht).n, ?_⟩
  revert t
  unfold toks
  split
  · simp
  · exact tokGo_hi _ _ _ _ (by decide) (by simp)

def OkP (p : Ex × PSt) : Prop := p.1.ok ∧ NB p.2.l
theorem NB.next {st : PSt} (h : NB st.l) : NB st.next.l := fun t ht => h t (List.mem_of_mem_drop ht)
theorem NB.fails {E : Int} {st : PSt} (h : NB st.l) : NB (st.fails E).l := by
  unfold PSt.fails
  cases st.bad <;> exact h
theorem NB.must {E : Int} {st : PSt} (h : NB st.l) (s : List UInt8) : NB (st.must E s).l := by
  unfold PSt.must
  split
  · exact h.next
  · exact h.fails
theorem ok_mk {o n : Int} {l : List Ex} (h0 : 0 ≤ o) (h1 : o ≤ 255) (h2 : 0 ≤ n) (h3 : n ≤ 9223372036854775807) (hl : Exs.ok l) : (Ex.mk o n l).ok := by
  simp only [Ex.ok]
  exact ⟨h0, h1, by omega, h3, hl⟩
theorem ok_zero : Ex.zero.ok := ok_mk (by omega) (by omega) (by omega) (by omega) trivial

theorem rowL_ok {one : PSt → Ex × PSt} (h1 : ∀ st, NB st.l → OkP (one st)) {sg : List (List UInt8 × Int)} (hsg : ∀ p ∈ sg, 0 ≤ p.2 ∧ p.2 ≤ 255) : ∀ (c : Nat) (x : Ex) (st : PSt), x.ok → NB st.l → OkP (rowL one sg c x st)
  | 0, x, st, hx, hs => ⟨hx, hs⟩
  | c + 1, x, st, hx, hs => by
    simp only [rowL]
    split
    · exact ⟨hx, hs⟩
    · cases hg : signOf st sg with
      | none => exact ⟨hx, hs⟩
      | some o =>
        dsimp only
        have ho : ∃ p ∈ sg, p.2 = o := by
          clear h1 hsg
          induction sg with
          | nil => simp [signOf] at hg
          | cons p r ih =>
            obtain ⟨s, o'⟩ := p
            simp only [signOf] at hg
            split at hg
            · exact ⟨(s, o'), by simp, by simpa using hg⟩
            · obtain ⟨p, hp, he⟩ := ih hg
              exact ⟨p, by simp [hp], he⟩
        obtain ⟨p, hp, rfl⟩ := ho
        have hm := hsg p hp
        have hg1 := h1 st.next (NB.next hs)
        exact rowL_ok h1 hsg c _ _ (ok_mk hm.1 hm.2 (by omega) (by omega) ⟨hx, hg1.1, trivial⟩) hg1.2
theorem lvSigns_ops (lv : Nat) : ∀ p ∈ lvSigns lv, 0 ≤ p.2 ∧ p.2 ≤ 255 := by
  match lv with
  | 0 => decide
  | 1 => decide
  | 2 => decide
  | 3 => decide
  | n + 4 => simp only [lvSigns]; decide

theorem prF_ok (E : Int) (N : Nat) : ∀ (lv : Nat) (st : PSt), st.need lv ≤ N → lv ≤ 6 → NB st.l → OkP (prF E lv st) := by
  induction N using Nat.strongRecOn with
  | ind N ih =>
    intro lv st hn hlv hw
    unfold PSt.need at hn
    have ih' : ∀ (lv' : Nat) (st' : PSt), 8 * st'.l.length + (7 - lv') < N → lv' ≤ 6 → NB st'.l → OkP (prF E lv' st') := fun lv' st' h1 h2 h3 => ih _ h1 lv' st' (Nat.le_refl _) h2 h3
    by_cases h5 : lv < 5
    · rw [prF_row E lv st h5]
      let f : PSt → Ex × PSt := fun s => if s.l.length ≤ st.l.length then prF E (lv + 1) s else (Ex.zero, ⟨[], some 0⟩)
      have hf : ∀ s, NB s.l → OkP (f s) := by
        intro s hs
        by_cases hl : s.l.length ≤ st.l.length
        · show OkP (if _ then _ else _)
          rw [if_pos hl]
          exact ih' (lv + 1) s (by omega) (by omega) hs
        · show OkP (if _ then _ else _)
          rw [if_neg hl]
          exact ⟨ok_zero, fun t ht => by simp at ht⟩
      rw [rowL_congr (one := prF E (lv + 1)) (one' := f) (prF_len E (lv + 1)) _ st.l.length (fun s hs => by show _ = if _ then _ else _; rw [if_pos (by omega)]) _ _ _ (prF_len E (lv + 1) st)]
      have hg := ih' (lv + 1) st (by omega) (by omega) hw
      exact rowL_ok hf (lvSigns_ops lv) _ _ _ hg.1 hg.2
    · by_cases h6 : lv = 5
      · subst h6
        rw [prF_unary]
        unfold prUnary
        split
        · rename_i hs
          have hl := PSt.next_lt hs
          have hg := ih' 5 st.next (by omega) (by omega) (NB.next hw)
          exact ⟨ok_mk (by omega) (by omega) (by omega) (by omega) ⟨hg.1, trivial⟩, hg.2⟩
        · split
          · rename_i _ hs
            have hl := PSt.next_lt hs
            have hg := ih' 5 st.next (by omega) (by omega) (NB.next hw)
            exact ⟨ok_mk (by omega) (by omega) (by omega) (by omega) ⟨hg.1, trivial⟩, hg.2⟩
          · exact ih' 6 st (by omega) (by omega) hw
      · obtain rfl : lv = 6 := by omega
        rw [prF_one]
        unfold prOne
        split
        · exact ⟨ok_zero, hw⟩
        · split
          · have h0 : 0 ≤ st.numN ∧ st.numN ≤ 9223372036854775807 := by
              obtain ⟨l, b⟩ := st
              cases l with
              | nil => exact ⟨Int.le_refl 0, by show (0 : Int) ≤ _; omega⟩
              | cons t l => exact hw t (by simp)
            exact ⟨ok_mk (by omega) (by omega) h0.1 h0.2 trivial, NB.next hw⟩
          · split
            · exact ⟨ok_mk (by omega) (by omega) (by omega) (by omega) trivial, NB.next hw⟩
            · split
              · exact ⟨ok_mk (by omega) (by omega) (by omega) (by omega) trivial, NB.next hw⟩
              · split
                · exact ⟨ok_mk (by omega) (by omega) (by omega) (by omega) trivial, NB.next hw⟩
                · split
                  · rename_i hs
                    have hl := PSt.next_lt hs
                    have hg := ih' 0 st.next (by omega) (by omega) (NB.next hw)
                    exact ⟨hg.1, NB.must hg.2 _⟩
                  · split
                    · rename_i hs
                      have hl := PSt.next_lt hs
                      have g1 := ih' 0 st.next (by omega) (by omega) (NB.next hw)
                      have l1 := Nat.le_trans (PSt.must_le E (prF E 0 st.next).2 wThen) (prF_len E 0 st.next)
                      have g2 := ih' 0 ((prF E 0 st.next).2.must E wThen) (by omega) (by omega) (NB.must g1.2 _)
                      have l2 := Nat.le_trans (PSt.must_le E (prF E 0 ((prF E 0 st.next).2.must E wThen)).2 wElse) (prF_len E 0 ((prF E 0 st.next).2.must E wThen))
                      have g3 := ih' 0 ((prF E 0 ((prF E 0 st.next).2.must E wThen)).2.must E wElse) (by omega) (by omega) (NB.must g2.2 _)
                      exact ⟨ok_mk (by omega) (by omega) (by omega) (by omega) ⟨g1.1, g2.1, g3.1, trivial⟩, g3.2⟩
                    · exact ⟨ok_zero, NB.fails hw⟩

theorem parse_ok (s : ByteArray) : (parse s).1.ok := by
  unfold parse
  split
  · exact ok_zero
  · have hg := prF_ok (runes s).length _ 0 ⟨(toks s).1, none⟩ (Nat.le_refl _) (by omega) (toks_nb s)
    unfold parseEnd
    repeat' split
    all_goals first | exact ok_zero | exact hg.1

end Go.Proofs.YtlkkigpjahlloaaDoor
