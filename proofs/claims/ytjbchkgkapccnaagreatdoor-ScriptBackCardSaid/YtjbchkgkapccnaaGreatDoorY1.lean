/-
  Plain laws: blanks between tokens make no difference, but to places.
-/
import Derived.Test.YtjbchkgkapccnaaGreatDoorY0
namespace Go.Proofs.YtjbchkgkapccnaaGreatDoor
open Go.RowKit
set_option linter.unusedVariables false

/-- A token but for its place. -/
def Tok.flat (t : Tok) : Int × ByteArray × Int := (t.kind, t.text, t.n)
/-- One state and another are alike but for places. -/
def PSt.Al (s s' : PSt) : Prop := s.l.map Tok.flat = s'.l.map Tok.flat ∧ s.bad.isSome = s'.bad.isSome
def PAl (p p' : Ex × PSt) : Prop := p.1 = p'.1 ∧ PSt.Al p.2 p'.2

theorem flat_eq {t t' : Tok} (h : t.flat = t'.flat) : t.kind = t'.kind ∧ t.text = t'.text ∧ t.n = t'.n := by
  unfold Tok.flat at h
  simp only [Prod.mk.injEq] at h
  exact h
theorem al_len {s s' : PSt} (h : PSt.Al s s') : s.l.length = s'.l.length := by
  have := congrArg List.length h.1
  simpa using this
theorem al_isB {s s' : PSt} (h : PSt.Al s s') (x : List UInt8) : s.isB x = s'.isB x := by
  obtain ⟨l, b⟩ := s
  obtain ⟨l', b'⟩ := s'
  obtain ⟨h1, h2⟩ := h
  dsimp only at h1 h2
  unfold PSt.isB
  dsimp only
  have hb : b.isNone = b'.isNone := by cases b <;> cases b' <;> simp_all
  rw [hb]
  cases l with
  | nil =>
    cases l' with
    | nil => rfl
    | cons t' l' => simp at h1
  | cons t l =>
    cases l' with
    | nil => simp at h1
    | cons t' l' =>
      simp only [List.map_cons, List.cons.injEq] at h1
      obtain ⟨e1, e2, e3⟩ := flat_eq h1.1
      dsimp only
      rw [e1, e2]
theorem al_numB {s s' : PSt} (h : PSt.Al s s') : s.numB = s'.numB ∧ s.numN = s'.numN := by
  obtain ⟨l, b⟩ := s
  obtain ⟨l', b'⟩ := s'
  obtain ⟨h1, h2⟩ := h
  dsimp only at h1 h2
  unfold PSt.numB PSt.numN
  dsimp only
  cases l with
  | nil =>
    cases l' with
    | nil => exact ⟨rfl, rfl⟩
    | cons t' l' => simp at h1
  | cons t l =>
    cases l' with
    | nil => simp at h1
    | cons t' l' =>
      simp only [List.map_cons, List.cons.injEq] at h1
      obtain ⟨e1, e2, e3⟩ := flat_eq h1.1
      dsimp only
      rw [e1, e3]
      exact ⟨rfl, rfl⟩
theorem al_next {s s' : PSt} (h : PSt.Al s s') : PSt.Al s.next s'.next := by
  refine ⟨?_, h.2⟩
  show (s.l.drop 1).map _ = (s'.l.drop 1).map _
  rw [List.map_drop, List.map_drop, h.1]
theorem al_fails {s s' : PSt} (h : PSt.Al s s') (E E' : Int) : PSt.Al (s.fails E) (s'.fails E') := by
  obtain ⟨l, b⟩ := s
  obtain ⟨l', b'⟩ := s'
  obtain ⟨h1, h2⟩ := h
  dsimp only at h1 h2
  cases b <;> cases b' <;> simp at h2 <;> exact ⟨h1, rfl⟩
theorem al_must {s s' : PSt} (h : PSt.Al s s') (E E' : Int) (x : List UInt8) : PSt.Al (s.must E x) (s'.must E' x) := by
  unfold PSt.must
  rw [al_isB h]
  split
  · exact al_next h
  · exact al_fails h E E'
theorem al_signOf {s s' : PSt} (h : PSt.Al s s') : ∀ sg, signOf s sg = signOf s' sg
  | [] => rfl
  | (x, o) :: r => by simp only [signOf]; rw [al_isB h, al_signOf h r]

theorem rowL_al {one one' : PSt → Ex × PSt} (h1 : ∀ s s', PSt.Al s s' → PAl (one s) (one' s')) (sg : List (List UInt8 × Int)) : ∀ (c : Nat) (x : Ex) (s s' : PSt), PSt.Al s s' → PAl (rowL one sg c x s) (rowL one' sg c x s')
  | 0, x, s, s', h => ⟨rfl, h⟩
  | c + 1, x, s, s', h => by
    simp only [rowL]
    rw [h.2, al_signOf h]
    split
    · exact ⟨rfl, h⟩
    · cases signOf s' sg with
      | none => exact ⟨rfl, h⟩
      | some o =>
        dsimp only
        have g := h1 _ _ (al_next h)
        rw [g.1]
        exact rowL_al h1 sg c _ _ _ g.2

theorem prStep_al (E E' : Int) {rec rec' : Nat → PSt → Ex × PSt} (H : ∀ lv s s', PSt.Al s s' → PAl (rec lv s) (rec' lv s')) (lv : Nat) (s s' : PSt) (h : PSt.Al s s') : PAl (prStep E rec lv s) (prStep E' rec' lv s') := by
  unfold prStep
  split
  · unfold prUnary
    rw [al_isB h, al_isB h]
    have g := H 5 _ _ (al_next h)
    split
    · exact ⟨by rw [g.1], g.2⟩
    · split
      · exact ⟨by rw [g.1], g.2⟩
      · exact H 6 _ _ h
  · split
    · unfold prOne
      rw [h.2, (al_numB h).1, (al_numB h).2, al_isB h, al_isB h, al_isB h, al_isB h, al_isB h]
      have hn := al_next h
      have g := H 0 _ _ hn
      split
      · exact ⟨rfl, h⟩
      · split
        · exact ⟨rfl, hn⟩
        · split
          · exact ⟨rfl, hn⟩
          · split
            · exact ⟨rfl, hn⟩
            · split
              · exact ⟨rfl, hn⟩
              · split
                · exact ⟨g.1, al_must g.2 E E' _⟩
                · split
                  · unfold prIf
                    have g2 := H 0 _ _ (al_must g.2 E E' wThen)
                    have g3 := H 0 _ _ (al_must g2.2 E E' wElse)
                    exact ⟨by dsimp only; rw [g.1, g2.1, g3.1], g3.2⟩
                  · exact ⟨rfl, al_fails h E E'⟩
    · have g := H (lv + 1) _ _ h
      rw [g.1]
      exact rowL_al (fun s s' => H (lv + 1) s s') _ _ _ _ _ g.2

theorem pr_al (E E' : Int) : ∀ (f lv : Nat) (s s' : PSt), PSt.Al s s' → PAl (pr E f lv s) (pr E' f lv s')
  | 0, _, _, _, h => ⟨rfl, h⟩
  | f + 1, lv, s, s', h => prStep_al E E' (pr_al E E' f) lv s s' h
theorem prF_al (E E' : Int) (lv : Nat) (s s' : PSt) (h : PSt.Al s s') : PAl (prF E lv s) (prF E' lv s') := by
  unfold prF
  have : s.need lv = s'.need lv := by unfold PSt.need; rw [al_len h]
  rw [this]
  exact pr_al E E' _ lv s s' h

theorem parseEnd_al (E E' : Int) (x : Ex) {s s' : PSt} (h : PSt.Al s s') : (parseEnd E x s).1 = (parseEnd E' x s').1 ∧ (parseEnd E x s).2.2 = (parseEnd E' x s').2.2 := by
  have key : ∀ u u' : PSt, u.bad.isSome = u'.bad.isSome → (match u.bad with | some a => (Ex.zero, a, 80) | none => if 16 < deepN 16 x then (Ex.zero, 0, 81) else (x, (0 : Int), (0 : Int))).1 = (match u'.bad with | some a => (Ex.zero, a, 80) | none => if 16 < deepN 16 x then (Ex.zero, 0, 81) else (x, (0 : Int), (0 : Int))).1 ∧
      (match u.bad with | some a => (Ex.zero, a, (80 : Int)) | none => if 16 < deepN 16 x then (Ex.zero, 0, 81) else (x, (0 : Int), (0 : Int))).2.2 = (match u'.bad with | some a => (Ex.zero, a, (80 : Int)) | none => if 16 < deepN 16 x then (Ex.zero, 0, 81) else (x, (0 : Int), (0 : Int))).2.2 := by
    intro u u' hu
    cases hb : u.bad <;> cases hb' : u'.bad <;> rw [hb, hb'] at hu <;> simp at hu ⊢
  unfold parseEnd
  have hl := al_len h
  by_cases h0 : s.l = []
  · have h0' : s'.l = [] := by rw [h0] at hl; exact List.eq_nil_of_length_eq_zero hl.symm
    rw [if_pos h0, if_pos h0']
    exact key s s' h.2
  · have h0' : s'.l ≠ [] := by intro h1; rw [h1] at hl; exact h0 (List.eq_nil_of_length_eq_zero hl)
    rw [if_neg h0, if_neg h0']
    exact key _ _ (al_fails h E E').2

-- the tokens

def wideR (r : Int) : List Int := if r = 40 ∨ r = 41 ∨ r = 43 ∨ r = 42 ∨ r = 45 then [32, r, 32] else [r]

theorem nameB_32 : nameB (Utf8.encode 32) = false := by decide +kernel
theorem kindN_32z : kindN 32 = 0 := by
  unfold kindN
  rw [if_neg (by omega), if_neg (by decide), if_neg (by rw [nameB_32]; simp)]
theorem goes_32 (t : Tok) : goesB t.kind t.text 32 = false := by
  unfold goesB
  by_cases h : t.kind = 3
  · rw [if_pos h]; simp
  · rw [if_neg h, kindN_32z]
    by_cases h0 : t.kind = 0
    · rw [h0]; simp
    · have : decide ((0 : Int) = t.kind) = false := by simp; omega
      rw [this, Bool.and_false]
/-- A sign of its own. -/
def lone (r : Int) : Prop := r = 40 ∨ r = 41 ∨ r = 43 ∨ r = 42 ∨ r = 45
theorem lone_kind {r : Int} (h : lone r) : kindN r = 3 := by
  rcases h with rfl | rfl | rfl | rfl | rfl <;> (unfold kindN; decide)
theorem lone_goes {r : Int} (h : lone r) (t : Tok) : goesB t.kind t.text r = false := by
  unfold goesB
  by_cases hk : t.kind = 3
  · rw [if_pos hk]
    have : decide (r = 61) = false := by simp; unfold lone at h; omega
    rw [this, Bool.false_and]
  · rw [if_neg hk, lone_kind h]
    have : decide ((3 : Int) = t.kind) = false := by simp; omega
    rw [this, Bool.and_false]
theorem lone_text {r : Int} (h : lone r) (x : Int) (p : Int) : goesB (paren r p).kind (paren r p).text x = false := by
  unfold goesB paren
  simp only [if_true]
  have : (decide ((Utf8.encode r).toList = [33]) || decide ((Utf8.encode r).toList = [60])) = false := by
    rcases h with rfl | rfl | rfl | rfl | rfl <;> decide +kernel
  rw [this, Bool.and_false]

/-- A token and one like it but for its place. -/
theorem endTok_al {t t' : Tok} (h : t.flat = t'.flat) {out out' : List Tok} (ho : out.map Tok.flat = out'.map Tok.flat) :
    (endTok t out).map (List.map Tok.flat) = (endTok t' out').map (List.map Tok.flat) := by
  obtain ⟨e1, e2, e3⟩ := flat_eq h
  unfold endTok
  rw [e1, e2]
  by_cases hk : t'.kind = 2
  · rw [if_pos hk, if_pos hk]
    cases numGo 0 (runes t'.text) with
    | none => rfl
    | some m => simp [ho, Tok.flat]
  · rw [if_neg hk, if_neg hk]
    by_cases h0 : t'.kind = 0
    · rw [if_pos h0, if_pos h0]; simp [ho]
    · rw [if_neg h0, if_neg h0]; simp [ho, h]

def TAl (p p' : List Tok × Int × Int) : Prop := p.1.map Tok.flat = p'.1.map Tok.flat ∧ p.2.2 = p'.2.2

theorem tokGo_wide : ∀ (rs : List Int) (t t' : Tok) (pos pos' : Int) (out out' : List Tok), t.flat = t'.flat → out.map Tok.flat = out'.map Tok.flat → TAl (tokGo t pos out rs) (tokGo t' pos' out' (rs.flatMap wideR))
  | [], t, t', pos, pos', out, out', h, ho => by
    have he := endTok_al h ho
    simp only [List.flatMap_nil, tokGo]
    cases h1 : endTok t out with
    | none =>
      rw [h1] at he
      cases h2 : endTok t' out' with
      | none => exact ⟨rfl, rfl⟩
      | some o' => rw [h2] at he; simp at he
    | some o =>
      rw [h1] at he
      cases h2 : endTok t' out' with
      | none => rw [h2] at he; simp at he
      | some o' =>
        rw [h2] at he
        simp only [Option.map_some, Option.some.injEq] at he
        exact ⟨he, rfl⟩
  | r :: rs, t, t', pos, pos', out, out', h, ho => by
    have he := endTok_al h ho
    obtain ⟨e1, e2, e3⟩ := flat_eq h
    have hgz : ∀ r, goesB Tok.zero.kind Tok.zero.text r = false := fun r => by unfold goesB Tok.zero; simp
    have hz : ∀ o, endTok Tok.zero o = some o := fun o => rfl
    rw [List.flatMap_cons]
    by_cases hl : lone r
    · have hw : wideR r = [32, r, 32] := if_pos hl
      have hb : ¬ (r = 32 ∨ r = 9) := by unfold lone at hl; omega
      rw [hw]
      simp only [List.cons_append, List.nil_append]
      -- the left side
      have L : tokGo t pos out (r :: rs) = match endTok t out with | none => ([], t.at_, 71) | some o => tokGo Tok.zero (pos + 1) (o ++ [paren r (pos + 1)]) rs := by
        simp only [tokGo]
        rw [lone_goes hl]
        simp only [Bool.false_eq_true, if_false]
        cases endTok t out with
        | none => rfl
        | some o =>
          dsimp only
          rw [if_neg hb, lone_kind hl, if_neg (by omega)]
          exact tokGo_shut (t := paren r (pos + 1)) (fun x => lone_text hl x _) rfl _ _
      have R : tokGo t' pos' out' (32 :: r :: 32 :: rs.flatMap wideR) = match endTok t' out' with | none => ([], t'.at_, 71) | some o => tokGo Tok.zero (pos' + 1 + 1 + 1) (o ++ [paren r (pos' + 1 + 1)]) (rs.flatMap wideR) := by
        rw [tokGo]
        rw [goes_32]
        simp only [Bool.false_eq_true, if_false]
        cases endTok t' out' with
        | none => rfl
        | some o =>
          dsimp only
          rw [if_pos (.inl trivial), tokGo_zero_sign (lone_kind hl) hb]
          have hp : (⟨3, Utf8.encode r, 0, pos' + 1 + 1⟩ : Tok) = paren r (pos' + 1 + 1) := rfl
          rw [hp, tokGo_shut (t := paren r (pos' + 1 + 1)) (fun x => lone_text hl x _) (o := o ++ [paren r (pos' + 1 + 1)]) rfl]
          rw [tokGo]
          rw [hgz, hz]
          simp only [Bool.false_eq_true, if_false]
          rw [if_pos (.inl trivial)]
      rw [L, R]
      cases h1 : endTok t out with
      | none =>
        rw [h1] at he
        cases h2 : endTok t' out' with
        | none => exact ⟨rfl, rfl⟩
        | some o' => rw [h2] at he; simp at he
      | some o =>
        rw [h1] at he
        cases h2 : endTok t' out' with
        | none => rw [h2] at he; simp at he
        | some o' =>
          rw [h2] at he
          simp only [Option.map_some, Option.some.injEq] at he
          exact tokGo_wide rs _ _ _ _ _ _ rfl (by simp [he, paren, Tok.flat])
    · have hw : wideR r = [r] := if_neg hl
      rw [hw, List.singleton_append]
      simp only [tokGo]
      rw [e1, e2]
      by_cases hg : goesB t'.kind t'.text r = true
      · rw [if_pos hg, if_pos hg]
        exact tokGo_wide rs _ _ _ _ _ _ (by unfold Tok.flat; dsimp only; rw [e3]) ho
      · rw [if_neg hg, if_neg hg]
        cases h1 : endTok t out with
        | none =>
          rw [h1] at he
          cases h2 : endTok t' out' with
          | none => exact ⟨rfl, rfl⟩
          | some o' => rw [h2] at he; simp at he
        | some o =>
          rw [h1] at he
          cases h2 : endTok t' out' with
          | none => rw [h2] at he; simp at he
          | some o' =>
            rw [h2] at he
            simp only [Option.map_some, Option.some.injEq] at he
            dsimp only
            by_cases hb : r = 32 ∨ r = 9
            · rw [if_pos hb, if_pos hb]
              exact tokGo_wide rs _ _ _ _ _ _ rfl he
            · rw [if_neg hb, if_neg hb]
              by_cases h0 : kindN r = 0
              · rw [if_pos h0, if_pos h0]
                exact ⟨rfl, rfl⟩
              · rw [if_neg h0, if_neg h0]
                exact tokGo_wide rs _ _ _ _ _ _ rfl he

/-- Blanks between tokens make no difference. -/
theorem parse_wide (s t : ByteArray) (hs : s.size ≤ 400) (ht : t.size ≤ 400) (hr : runes t = (runes s).flatMap wideR) : (parse s).1 = (parse t).1 ∧ (parse s).2.2 = (parse t).2.2 := by
  have h1 : TAl (toks s) (toks t) := by
    unfold toks
    rw [if_neg (by omega), if_neg (by omega), hr]
    exact tokGo_wide _ _ _ _ _ _ _ rfl rfl
  unfold parse
  rw [h1.2]
  split
  · exact ⟨rfl, rfl⟩
  · have g := prF_al (runes s).length (runes t).length 0 ⟨(toks s).1, none⟩ ⟨(toks t).1, none⟩ ⟨h1.1, rfl⟩
    rw [g.1]
    exact parseEnd_al _ _ _ g.2

end Go.Proofs.YtjbchkgkapccnaaGreatDoor
