/-
  Plain law: tokens that say an expression in full are read as it.
-/
import Derived.Test.YtjbchkgkapccnaaGreatDoorMW
namespace Go.Proofs.YtjbchkgkapccnaaGreatDoor

def Sg (t : Tok) (w : List UInt8) : Prop := t.kind = 3 ∧ t.text.toList = w
def Wd (t : Tok) (w : List UInt8) : Prop := t.kind = 1 ∧ t.text.toList = w

/-- These tokens say just this expression. -/
inductive Says : Ex → List Tok → Prop
  | num (t : Tok) (n : Int) : t.kind = 2 → t.n = n → Says (.mk 1 n []) [t]
  | key (t : Tok) : Wd t wKey → Says (.mk 2 0 []) [t]
  | val (t : Tok) : Wd t wVal → Says (.mk 3 0 []) [t]
  | acc (t : Tok) : Wd t wAcc → Says (.mk 4 0 []) [t]
  | neg (o s c : Tok) (a : Ex) (ta : List Tok) : Sg o [40] → Sg s [45] → Sg c [41] → Says a ta → Says (.mk 5 0 [a]) (o :: s :: (ta ++ [c]))
  | not (o s c : Tok) (a : Ex) (ta : List Tok) : Sg o [40] → Sg s [33] → Sg c [41] → Says a ta → Says (.mk 6 0 [a]) (o :: s :: (ta ++ [c]))
  | two (o s c : Tok) (a e : Ex) (ta te : List Tok) (lv : Fin 5) (p : List UInt8 × Int) : Sg o [40] → p ∈ lvSigns lv → Sg s p.1 → Sg c [41] → Says a ta → Says e te → Says (.mk p.2 0 [a, e]) (o :: (ta ++ s :: (te ++ [c])))
  | ite (o i th el c : Tok) (a b e : Ex) (ta tb te : List Tok) : Sg o [40] → Wd i wIf → Wd th wThen → Wd el wElse → Sg c [41] → Says a ta → Says b tb → Says e te → Says (.mk 18 0 [a, b, e]) (o :: i :: (ta ++ th :: (tb ++ el :: (te ++ [c]))))

theorem isB_eq (t : Tok) (l : List Tok) (w : List UInt8) : (⟨t :: l, none⟩ : PSt).isB w = (decide (t.kind ≠ 0) && (decide (t.kind ≠ 2) && decide (t.text.toList = w))) := by
  simp [PSt.isB]
theorem isB_sg {t : Tok} {v : List UInt8} (h : Sg t v) (l : List Tok) (w : List UInt8) : (⟨t :: l, none⟩ : PSt).isB w = decide (v = w) := by
  rw [isB_eq, h.1, h.2]; simp
theorem isB_wd {t : Tok} {v : List UInt8} (h : Wd t v) (l : List Tok) (w : List UInt8) : (⟨t :: l, none⟩ : PSt).isB w = decide (v = w) := by
  rw [isB_eq, h.1, h.2]; simp
theorem isB_num {t : Tok} (h : t.kind = 2) (l : List Tok) (w : List UInt8) : (⟨t :: l, none⟩ : PSt).isB w = false := by
  rw [isB_eq, h]; simp
theorem numB_of (t : Tok) (l : List Tok) : (⟨t :: l, none⟩ : PSt).numB = decide (t.kind = 2) := rfl
theorem next_of (t : Tok) (l : List Tok) : (⟨t :: l, none⟩ : PSt).next = ⟨l, none⟩ := rfl

/-- No level from lv on goes on here. -/
def Shut (lv : Nat) (R : List Tok) : Prop := ∀ i, lv ≤ i → i < 5 → signOf ⟨R, none⟩ (lvSigns i) = none
theorem signOf_tx {t : Tok} {v : List UInt8} (hv : ∀ l w, (⟨t :: l, none⟩ : PSt).isB w = decide (v = w)) (R : List Tok) : ∀ sg : List (List UInt8 × Int), signOf ⟨t :: R, none⟩ sg = (sg.find? (fun q => decide (v = q.1))).map (·.2)
  | [] => rfl
  | (s, o) :: r => by
    simp only [signOf]
    rw [hv R s, List.find?_cons]
    by_cases h : v = s
    · simp [h]
    · simp only [h, decide_false, Bool.false_eq_true, if_false]
      exact signOf_tx hv R r
theorem lv_cases {P : Nat → Prop} (h0 : P 0) (h1 : P 1) (h2 : P 2) (h3 : P 3) (h4 : P 4) : ∀ i, i < 5 → P i := by
  intro i hi
  obtain rfl | rfl | rfl | rfl | rfl : i = 0 ∨ i = 1 ∨ i = 2 ∨ i = 3 ∨ i = 4 := by omega
  all_goals assumption
theorem shut_of {t : Tok} {v : List UInt8} (hv : ∀ l w, (⟨t :: l, none⟩ : PSt).isB w = decide (v = w)) (hn : ∀ i : Fin 5, (lvSigns i).find? (fun q => decide (v = q.1)) = none) (R : List Tok) : Shut 0 (t :: R) := by
  intro i _ hi
  rw [signOf_tx hv, hn ⟨i, hi⟩]
  rfl
theorem shut_close {c : Tok} (h : Sg c [41]) (R : List Tok) : Shut 0 (c :: R) := shut_of (fun l w => isB_sg h l w) (by decide) R
theorem shut_then {c : Tok} (h : Wd c wThen) (R : List Tok) : Shut 0 (c :: R) := shut_of (fun l w => isB_wd h l w) (by decide) R
theorem shut_else {c : Tok} (h : Wd c wElse) (R : List Tok) : Shut 0 (c :: R) := shut_of (fun l w => isB_wd h l w) (by decide) R
theorem shut_nil (lv : Nat) : Shut lv [] := by
  intro i _ hi
  revert i
  intro i _ hi
  have : ∀ sg : List (List UInt8 × Int), signOf ⟨[], none⟩ sg = none := by
    intro sg
    induction sg with
    | nil => rfl
    | cons q r ih => obtain ⟨s, o⟩ := q; simp only [signOf, PSt.isB]; simpa using ih
  exact this _
theorem signs_apart : ∀ lv : Fin 5, ∀ p ∈ lvSigns lv, ∀ i : Fin 5, lv < i → (lvSigns i).find? (fun q => decide (p.1 = q.1)) = none := by decide
theorem signs_this : ∀ lv : Fin 5, ∀ p ∈ lvSigns lv, ((lvSigns lv).find? (fun q => decide (p.1 = q.1))).map (·.2) = some p.2 := by decide
theorem shut_sign {s : Tok} {lv : Fin 5} {p : List UInt8 × Int} (hp : p ∈ lvSigns lv) (h : Sg s p.1) (R : List Tok) : Shut (lv + 1) (s :: R) := by
  intro i h1 hi
  rw [signOf_tx (fun l w => isB_sg h l w), signs_apart lv p hp ⟨i, hi⟩ (by show (lv : Nat) < i; omega)]
  rfl

theorem rowL_none {one : PSt → Ex × PSt} {sg : List (List UInt8 × Int)} {st : PSt} (h : signOf st sg = none) : ∀ (c : Nat) (x : Ex), rowL one sg c x st = (x, st)
  | 0, x => rfl
  | c + 1, x => by
    simp only [rowL]
    split
    · rfl
    · rw [h]

theorem rise5 (E : Int) {st : PSt} {p : Ex × PSt} (h : prF E 6 st = p) (h1 : st.isB [45] = false) (h2 : st.isB [33] = false) : prF E 5 st = p := by
  rw [prF_unary]
  unfold prUnary
  rw [h1, h2]
  simpa using h
theorem rise (E : Int) {st : PSt} {x : Ex} {R : List Tok} : ∀ (d lv : Nat), lv + d = 5 → prF E 5 st = (x, ⟨R, none⟩) → Shut lv R → prF E lv st = (x, ⟨R, none⟩)
  | 0, lv, hd, h, _ => by obtain rfl : lv = 5 := by omega
                          exact h
  | d + 1, lv, hd, h, hs => by
    rw [prF_row E lv st (by omega), rise E d (lv + 1) (by omega) h (fun i h1 h2 => hs i (by omega) h2)]
    exact rowL_none (hs lv (Nat.le_refl _) (by omega)) _ _

/-- What is said is read. -/
theorem says_one (E : Int) {x : Ex} {ts : List Tok} (h : Says x ts) : ∀ R, prF E 6 ⟨ts ++ R, none⟩ = (x, ⟨R, none⟩) ∧ (⟨ts ++ R, none⟩ : PSt).isB [45] = false ∧ (⟨ts ++ R, none⟩ : PSt).isB [33] = false := by
  have low : ∀ {x : Ex} {ts : List Tok}, (∀ R, prF E 6 ⟨ts ++ R, none⟩ = (x, ⟨R, none⟩) ∧ (⟨ts ++ R, none⟩ : PSt).isB [45] = false ∧ (⟨ts ++ R, none⟩ : PSt).isB [33] = false) → ∀ (lv : Nat) (R : List Tok), lv ≤ 5 → Shut lv R → prF E lv ⟨ts ++ R, none⟩ = (x, ⟨R, none⟩) := by
    intro x ts h lv R hlv hs
    obtain ⟨h1, h2, h3⟩ := h R
    exact rise E (5 - lv) lv (by omega) (rise5 E h1 h2 h3) hs
  -- an open parenthesis
  have opn : ∀ {o c : Tok} {x : Ex} {l R : List Tok}, Sg o [40] → Sg c [41] → prF E 0 ⟨l ++ c :: R, none⟩ = (x, ⟨c :: R, none⟩) → prF E 6 ⟨o :: (l ++ c :: R), none⟩ = (x, ⟨R, none⟩) ∧ (⟨o :: (l ++ c :: R), none⟩ : PSt).isB [45] = false ∧ (⟨o :: (l ++ c :: R), none⟩ : PSt).isB [33] = false := by
    intro o c x l R ho hc hp
    refine ⟨?_, by rw [isB_sg ho]; rfl, by rw [isB_sg ho]; rfl⟩
    rw [prF_one]
    unfold prOne
    rw [numB_of, ho.1, isB_sg ho, isB_sg ho, isB_sg ho, isB_sg ho]
    simp only [Option.isSome_none, Bool.false_eq_true, if_false, next_of, hp, PSt.must, isB_sg hc]
    rfl
  induction h with
  | num t n h1 h2 =>
    intro R
    refine ⟨?_, isB_num h1 _ _, isB_num h1 _ _⟩
    rw [prF_one]
    unfold prOne
    show (if _ then _ else if PSt.numB ⟨t :: R, none⟩ = true then _ else _) = _
    rw [numB_of, h1]
    subst h2
    rfl
  | key t h1 =>
    intro R
    refine ⟨?_, by show PSt.isB ⟨t :: R, none⟩ _ = _; rw [isB_wd h1]; rfl, by show PSt.isB ⟨t :: R, none⟩ _ = _; rw [isB_wd h1]; rfl⟩
    show prF E 6 ⟨t :: R, none⟩ = _
    rw [prF_one]
    unfold prOne
    rw [numB_of, h1.1, isB_wd h1]
    rfl
  | val t h1 =>
    intro R
    refine ⟨?_, by show PSt.isB ⟨t :: R, none⟩ _ = _; rw [isB_wd h1]; rfl, by show PSt.isB ⟨t :: R, none⟩ _ = _; rw [isB_wd h1]; rfl⟩
    show prF E 6 ⟨t :: R, none⟩ = _
    rw [prF_one]
    unfold prOne
    rw [numB_of, h1.1, isB_wd h1, isB_wd h1]
    rfl
  | acc t h1 =>
    intro R
    refine ⟨?_, by show PSt.isB ⟨t :: R, none⟩ _ = _; rw [isB_wd h1]; rfl, by show PSt.isB ⟨t :: R, none⟩ _ = _; rw [isB_wd h1]; rfl⟩
    show prF E 6 ⟨t :: R, none⟩ = _
    rw [prF_one]
    unfold prOne
    rw [numB_of, h1.1, isB_wd h1, isB_wd h1, isB_wd h1]
    rfl
  | neg o s c a ta ho hs hc _ ih =>
    intro R
    have e : (o :: s :: (ta ++ [c])) ++ R = o :: ((s :: ta) ++ c :: R) := by simp
    rw [e]
    refine opn ho hc (rise E 5 0 rfl ?_ (shut_close hc R))
    show prF E 5 ⟨s :: (ta ++ c :: R), none⟩ = _
    rw [prF_unary]
    unfold prUnary
    rw [isB_sg hs, next_of, low ih 5 _ (Nat.le_refl _) (fun i h1 h2 => by omega)]
    rfl
  | not o s c a ta ho hs hc _ ih =>
    intro R
    have e : (o :: s :: (ta ++ [c])) ++ R = o :: ((s :: ta) ++ c :: R) := by simp
    rw [e]
    refine opn ho hc (rise E 5 0 rfl ?_ (shut_close hc R))
    show prF E 5 ⟨s :: (ta ++ c :: R), none⟩ = _
    rw [prF_unary]
    unfold prUnary
    rw [isB_sg hs, isB_sg hs, next_of, low ih 5 _ (Nat.le_refl _) (fun i h1 h2 => by omega)]
    rfl
  | two o s c a e ta te lv p ho hp hs hc _ _ ia ie =>
    intro R
    have e1 : (o :: (ta ++ s :: (te ++ [c]))) ++ R = o :: ((ta ++ s :: te) ++ c :: R) := by simp
    rw [e1]
    refine opn ho hc ?_
    have e2 : (ta ++ s :: te) ++ c :: R = ta ++ s :: (te ++ c :: R) := by simp
    rw [e2]
    have hsc := shut_close hc R
    -- the row of its level
    have hrow : prF E lv ⟨ta ++ s :: (te ++ c :: R), none⟩ = (.mk p.2 0 [a, e], ⟨c :: R, none⟩) := by
      have hl : (lv : Nat) < 5 := lv.2
      rw [prF_row E lv _ hl, low ia (lv + 1) _ (by omega) (shut_sign hp hs _)]
      obtain ⟨m, hm⟩ : ∃ m, lvMost lv = m + 1 := by
        unfold lvMost
        split
        · exact ⟨0, rfl⟩
        · exact ⟨399, rfl⟩
      rw [hm]
      simp only [rowL, Option.isSome_none, Bool.false_eq_true, if_false]
      rw [signOf_tx (fun l w => isB_sg hs l w), signs_this lv p hp]
      simp only [next_of]
      rw [low ie (lv + 1) _ (by omega) (fun i h1 h2 => hsc i (Nat.zero_le _) h2)]
      exact rowL_none (hsc lv (Nat.zero_le _) hl) _ _
    -- the rows below
    have down : ∀ (d l : Nat), l + d = lv → prF E l ⟨ta ++ s :: (te ++ c :: R), none⟩ = (.mk p.2 0 [a, e], ⟨c :: R, none⟩) := by
      intro d
      induction d with
      | zero => intro l hl; rw [show l = (lv : Nat) by omega]; exact hrow
      | succ d ihd =>
        intro l hl
        have h5 : (lv : Nat) < 5 := lv.2
        rw [prF_row E l _ (by omega), ihd (l + 1) (by omega)]
        exact rowL_none (hsc l (Nat.zero_le _) (by omega)) _ _
    exact down lv 0 (by omega)
  | ite o i th el c a b e ta tb te ho hi ht he hc _ _ _ ia ib ie =>
    intro R
    have e1 : (o :: i :: (ta ++ th :: (tb ++ el :: (te ++ [c])))) ++ R = o :: ((i :: (ta ++ th :: (tb ++ el :: te))) ++ c :: R) := by simp
    rw [e1]
    refine opn ho hc (rise E 5 0 rfl (rise5 E ?_ ?_ ?_) (shut_close hc R))
    · have e2 : (i :: (ta ++ th :: (tb ++ el :: te))) ++ c :: R = i :: (ta ++ th :: (tb ++ el :: (te ++ c :: R))) := by simp
      rw [e2, prF_one]
      unfold prOne
      rw [numB_of, hi.1, isB_wd hi, isB_wd hi, isB_wd hi, isB_wd hi, isB_wd hi]
      have p1 := low ia 0 (th :: (tb ++ el :: (te ++ c :: R))) (by omega) (shut_then ht _)
      have p2 := low ib 0 (el :: (te ++ c :: R)) (by omega) (shut_else he _)
      have p3 := low ie 0 (c :: R) (by omega) (shut_close hc _)
      have m1 : PSt.must E ⟨th :: (tb ++ el :: (te ++ c :: R)), none⟩ wThen = ⟨tb ++ el :: (te ++ c :: R), none⟩ := by
        unfold PSt.must
        rw [isB_wd ht]
        rfl
      have m2 : PSt.must E ⟨el :: (te ++ c :: R), none⟩ wElse = ⟨te ++ c :: R, none⟩ := by
        unfold PSt.must
        rw [isB_wd he]
        rfl
      show (prIf E (prF E) ⟨ta ++ th :: (tb ++ el :: (te ++ c :: R)), none⟩) = _
      unfold prIf
      rw [p1]
      dsimp only
      rw [m1, p2]
      dsimp only
      rw [m2, p3]
    · show PSt.isB ⟨i :: _, none⟩ _ = _
      rw [isB_wd hi]; rfl
    · show PSt.isB ⟨i :: _, none⟩ _ = _
      rw [isB_wd hi]; rfl

theorem says_all (E : Int) {x : Ex} {ts : List Tok} (h : Says x ts) : prF E 0 ⟨ts, none⟩ = (x, ⟨[], none⟩) := by
  obtain ⟨h1, h2, h3⟩ := says_one E h []
  rw [List.append_nil] at h1 h2 h3
  exact rise E 5 0 rfl (rise5 E h1 h2 h3) (shut_nil 0)

end Go.Proofs.YtjbchkgkapccnaaGreatDoor
