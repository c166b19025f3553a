/-
  For LexBlanks: plain laws: what tokens are in full; their places rise.
-/
import Derived.Test.YtdjeaklekhjbcaaDoorP6
import Derived.Test.YtdjeaklekhjbcaaDoorY2
namespace Go.Proofs.YtdjeaklekhjbcaaDoor
set_option linter.unusedVariables false

theorem kindN_four (r : Int) : kindN r = 0 ∨ kindN r = 1 ∨ kindN r = 2 ∨ kindN r = 3 := by
  unfold kindN
  repeat' split
  all_goals simp
theorem numGo_pos : ∀ (rs : List Int) (n m : Int), 0 ≤ n → (∀ r ∈ rs, 48 ≤ r) → numGo n rs = some m → 0 ≤ m
  | [], n, m, hn, _, h => by simp only [numGo, Option.some.injEq] at h; omega
  | r :: rs, n, m, hn, hr, h => by
    simp only [numGo] at h
    split at h
    · simp at h
    · have := hr r (by simp)
      exact numGo_pos rs _ m (by omega) (fun x hx => hr x (by simp [hx])) h

/-- What a token is, in full. -/
inductive Full : Tok → Prop
  | name (x : Int) (run : List Int) (at_ : Int) : (∀ r ∈ x :: run, kindN r = 1 ∧ Utf8.valid r = true) → Full ⟨1, encL (x :: run), 0, at_⟩
  | num (n at_ : Int) : 0 ≤ n → n ≤ 9223372036854775807 → Full ⟨2, { data := #[] }, n, at_⟩
  | sign (x at_ : Int) : kindN x = 3 → Full ⟨3, Utf8.encode x, 0, at_⟩
  | sign2 (x at_ : Int) : kindN x = 3 → x = 33 ∨ x = 60 → Full ⟨3, Utf8.encode x ++ Utf8.encode 61, 0, at_⟩
/-- .. while it is read. -/
inductive Cur : Tok → Prop
  | none (t : Tok) : t.kind = 0 → Cur t
  | run (k x : Int) (run : List Int) (at_ : Int) : k = 1 ∨ k = 2 → (∀ r ∈ x :: run, kindN r = k ∧ Utf8.valid r = true) → Cur ⟨k, encL (x :: run), 0, at_⟩
  | sign (x at_ : Int) : kindN x = 3 → Cur ⟨3, Utf8.encode x, 0, at_⟩
  | sign2 (x at_ : Int) : kindN x = 3 → x = 33 ∨ x = 60 → Cur ⟨3, Utf8.encode x ++ Utf8.encode 61, 0, at_⟩

theorem Cur.new (r p : Int) (hr : Utf8.valid r = true) (hk : kindN r ≠ 0) : Cur ⟨kindN r, Utf8.encode r, 0, p⟩ := by
  rcases kindN_four r with h | h | h | h
  · exact absurd h hk
  · have := Cur.run 1 r [] p (.inl rfl) (by intro q hq; simp at hq; subst hq; exact ⟨h, hr⟩)
    rw [encL_one] at this
    rwa [h]
  · have := Cur.run 2 r [] p (.inr rfl) (by intro q hq; simp at hq; subst hq; exact ⟨h, hr⟩)
    rw [encL_one] at this
    rwa [h]
  · rw [h]
    exact .sign r p h
theorem Cur.goes {t : Tok} (h : Cur t) (r : Int) (hr : Utf8.valid r = true) (hg : goesB t.kind t.text r = true) : Cur { t with text := t.text ++ Utf8.encode r } := by
  cases h with
  | none _ h0 =>
    unfold goesB at hg
    rw [h0] at hg
    simp at hg
  | run k x run at_ hk hx =>
    unfold goesB at hg
    dsimp only at hg
    rw [if_neg (by omega)] at hg
    simp only [Bool.and_eq_true, decide_eq_true_eq] at hg
    have := Cur.run k x (run ++ [r]) at_ hk (by
      intro q hq
      rcases List.mem_cons.1 hq with rfl | hq
      · exact hx _ (by simp)
      · rcases List.mem_append.1 hq with hq | hq
        · exact hx _ (by simp [hq])
        · simp at hq; subst hq; exact ⟨hg.2, hr⟩)
    rw [← List.cons_append, encL_append, encL_one] at this
    exact this
  | sign x at_ hk =>
    dsimp only at hg ⊢
    rw [sign_goes x r hk] at hg
    simp only [Bool.and_eq_true, Bool.or_eq_true, decide_eq_true_eq] at hg
    rw [hg.1]
    exact .sign2 x at_ hk hg.2
  | sign2 x at_ hk hx =>
    dsimp only at hg
    rw [sign_goes2 x r hx] at hg
    simp at hg

theorem endTok_full {t : Tok} (h : Cur t) {out o : List Tok} (ho : ∀ u ∈ out, Full u) (he : endTok t out = some o) : ∀ u ∈ o, Full u := by
  have put : ∀ u, Full u → o = out ++ [u] → ∀ v ∈ o, Full v := by
    intro u hu e v hv
    subst e
    rcases List.mem_append.1 hv with hv | hv
    · exact ho v hv
    · simp at hv; subst hv; exact hu
  unfold endTok at he
  cases h with
  | none _ h0 =>
    rw [if_neg (by omega), if_pos h0] at he
    simp only [Option.some.injEq] at he
    subst he
    exact ho
  | run k x run at_ hk hx =>
    dsimp only at he
    by_cases h2 : k = 2
    · subst h2
      rw [if_pos rfl, runes_encL _ (fun r hr => (hx r hr).2)] at he
      cases hm : numGo 0 (x :: run) with
      | none => rw [hm] at he; simp at he
      | some m =>
        rw [hm] at he
        simp only [Option.some.injEq] at he
        have hd : ∀ r ∈ x :: run, 48 ≤ r := fun r hr => (kind_digit r (hx r hr).1).1
        have hhi : ∀ (rs : List Int) (n m : Int), n ≤ 9223372036854775807 → numGo n rs = some m → m ≤ 9223372036854775807 := by
          intro rs
          induction rs with
          | nil => intro n m hn h; simp only [numGo, Option.some.injEq] at h; omega
          | cons r rs ih =>
            intro n m hn h
            simp only [numGo] at h
            split at h
            · simp at h
            · exact ih _ m (by omega) h
        exact put _ (.num m at_ (numGo_pos _ 0 m (by omega) hd hm) (hhi _ 0 m (by omega) hm)) he.symm
    · obtain rfl : k = 1 := by omega
      rw [if_neg (by decide), if_neg (by decide)] at he
      simp only [Option.some.injEq] at he
      exact put _ (.name x run at_ hx) he.symm
  | sign x at_ hk =>
    dsimp only at he
    rw [if_neg (by decide), if_neg (by decide)] at he
    simp only [Option.some.injEq] at he
    exact put _ (.sign x at_ hk) he.symm
  | sign2 x at_ hk hx =>
    dsimp only at he
    rw [if_neg (by decide), if_neg (by decide)] at he
    simp only [Option.some.injEq] at he
    exact put _ (.sign2 x at_ hk hx) he.symm

theorem tokGo_full : ∀ (rs : List Int) (t : Tok) (pos : Int) (out : List Tok), (∀ r ∈ rs, Utf8.valid r = true) → Cur t → (∀ u ∈ out, Full u) → ∀ u ∈ (tokGo t pos out rs).1, Full u
  | [], t, pos, out, _, ht, ho => by
    simp only [tokGo]
    cases he : endTok t out with
    | none => simp
    | some o => exact endTok_full ht ho he
  | r :: rs, t, pos, out, hv, ht, ho => by
    have hv' : ∀ q ∈ rs, Utf8.valid q = true := fun q hq => hv q (by simp [hq])
    simp only [tokGo]
    split
    · exact tokGo_full rs _ _ _ hv' (ht.goes r (hv r (by simp)) (by assumption)) ho
    · cases he : endTok t out with
      | none => simp
      | some o =>
        dsimp only
        have ho2 := endTok_full ht ho he
        split
        · exact tokGo_full rs _ _ _ hv' (.none _ rfl) ho2
        · split
          · simp
          · rename_i h0
            exact tokGo_full rs _ _ _ hv' (Cur.new r _ (hv r (by simp)) h0) ho2

/-- Places rise. -/
def Rise (l : List Tok) : Prop := l.Pairwise fun a b => a.at_ < b.at_
theorem endTok_rise {t : Tok} {pos : Int} {out o : List Tok} (ho : Rise out) (hp : ∀ u ∈ out, u.at_ ≤ pos) (ht : t.kind ≠ 0 → t.at_ ≤ pos ∧ ∀ u ∈ out, u.at_ < t.at_) (he : endTok t out = some o) : Rise o ∧ ∀ u ∈ o, u.at_ ≤ pos := by
  have put : ∀ u : Tok, u.at_ = t.at_ → t.kind ≠ 0 → o = out ++ [u] → Rise o ∧ ∀ u ∈ o, u.at_ ≤ pos := by
    intro u hu hk e
    obtain ⟨h1, h2⟩ := ht hk
    subst e
    refine ⟨List.pairwise_append.2 ⟨ho, List.pairwise_singleton _ _, fun a ha b hb => ?_⟩, fun v hv => ?_⟩
    · simp at hb; subst hb; rw [hu]; exact h2 a ha
    · rcases List.mem_append.1 hv with hv | hv
      · exact hp v hv
      · simp at hv; subst hv; omega
  unfold endTok at he
  by_cases hk : t.kind = 2
  · rw [if_pos hk] at he
    cases hm : numGo 0 (runes t.text) with
    | none => rw [hm] at he; simp at he
    | some m =>
      rw [hm] at he
      simp only [Option.some.injEq] at he
      exact put ⟨2, { data := #[] }, m, t.at_⟩ rfl (by omega) he.symm
  · rw [if_neg hk] at he
    by_cases h0 : t.kind = 0
    · rw [if_pos h0] at he
      simp only [Option.some.injEq] at he
      subst he
      exact ⟨ho, hp⟩
    · rw [if_neg h0] at he
      simp only [Option.some.injEq] at he
      exact put _ rfl h0 he.symm
theorem tokGo_rise : ∀ (rs : List Int) (t : Tok) (pos : Int) (out : List Tok), Rise out → (∀ u ∈ out, u.at_ ≤ pos) → (t.kind ≠ 0 → t.at_ ≤ pos ∧ ∀ u ∈ out, u.at_ < t.at_) → Rise (tokGo t pos out rs).1
  | [], t, pos, out, ho, hp, ht => by
    simp only [tokGo]
    cases he : endTok t out with
    | none => exact List.Pairwise.nil
    | some o => exact (endTok_rise ho hp ht he).1
  | r :: rs, t, pos, out, ho, hp, ht => by
    simp only [tokGo]
    split
    · exact tokGo_rise rs _ _ _ ho (fun u hu => by have := hp u hu; omega) (fun hk => ⟨by have := (ht hk).1; show t.at_ ≤ _; omega, (ht hk).2⟩)
    · cases he : endTok t out with
      | none => exact List.Pairwise.nil
      | some o =>
        dsimp only
        obtain ⟨h1, h2⟩ := endTok_rise ho hp ht he
        split
        · exact tokGo_rise rs _ _ _ h1 (fun u hu => by have := h2 u hu; omega) (fun hk => absurd rfl hk)
        · split
          · exact List.Pairwise.nil
          · exact tokGo_rise rs _ _ _ h1 (fun u hu => by have := h2 u hu; omega) (fun _ => ⟨Int.le_refl _, fun u hu => by have := h2 u hu; show u.at_ < pos + 1; omega⟩)

theorem toks_full (s : ByteArray) : (∀ u ∈ (toks s).1, Full u) ∧ Rise (toks s).1 := by
  unfold toks
  split
  · exact ⟨by simp, List.Pairwise.nil⟩
  · exact ⟨tokGo_full _ _ _ _ (runesAt_valid s _ 0 rfl) (.none _ rfl) (by simp), tokGo_rise _ _ _ _ List.Pairwise.nil (by simp) (fun hk => absurd rfl hk)⟩

end Go.Proofs.YtdjeaklekhjbcaaDoor
