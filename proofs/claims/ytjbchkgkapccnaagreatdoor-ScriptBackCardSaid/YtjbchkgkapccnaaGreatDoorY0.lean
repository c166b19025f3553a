/-
  Plain laws: parentheses around a text make no difference.
-/
import Derived.Test.YtjbchkgkapccnaaGreatDoorMP
import Derived.Test.YtjbchkgkapccnaaGreatDoorMA
namespace Go.Proofs.YtjbchkgkapccnaaGreatDoor
open Go.RowKit
set_option linter.unusedVariables false

def Tok.sh (n : Int) (t : Tok) : Tok := { t with at_ := t.at_ + n }
/-- Tokens that shut. -/
def Closers (R : List Tok) : Prop := ∀ t ∈ R, t.kind = 3 ∧ t.text.toList = [41]
/-- A state, its tokens moved by n, with R behind them. -/
def PSt.ext (n : Int) (R : List Tok) (st : PSt) : PSt := ⟨st.l.map (Tok.sh n) ++ R, st.bad⟩

section
variable {n : Int} {R : List Tok}
theorem ext_isB (hR : Closers R) (st : PSt) {s : List UInt8} (hs : s ≠ [41]) : (st.ext n R).isB s = st.isB s := by
  obtain ⟨l, b⟩ := st
  cases l with
  | cons t l => rfl
  | nil =>
    cases R with
    | nil => rfl
    | cons t R =>
      obtain ⟨h1, h2⟩ := hR t (by simp)
      unfold PSt.isB PSt.ext
      simp only [List.map_nil, List.nil_append]
      rw [h2]
      simp [Ne.symm hs]
theorem ext_isB_true (st : PSt) {s : List UInt8} (h : st.isB s = true) : (st.ext n R).isB s = true := by
  obtain ⟨l, b⟩ := st
  cases l with
  | cons t l => exact h
  | nil => simp [PSt.isB] at h
theorem ext_next {st : PSt} {s : List UInt8} (h : st.isB s = true) : (st.ext n R).next = st.next.ext n R := by
  obtain ⟨l, b⟩ := st
  cases l with
  | cons t l => rfl
  | nil => simp [PSt.isB] at h
theorem ext_numB (hR : Closers R) (st : PSt) : (st.ext n R).numB = st.numB := by
  obtain ⟨l, b⟩ := st
  cases l with
  | cons t l => rfl
  | nil =>
    cases R with
    | nil => rfl
    | cons t R =>
      obtain ⟨h1, h2⟩ := hR t (by simp)
      unfold PSt.numB PSt.ext
      simp only [List.map_nil, List.nil_append]
      rw [h1]
      decide
theorem ext_num {st : PSt} (h : st.numB = true) : (st.ext n R).numN = st.numN ∧ (st.ext n R).next = st.next.ext n R := by
  obtain ⟨l, b⟩ := st
  cases l with
  | cons t l => exact ⟨rfl, rfl⟩
  | nil => simp [PSt.numB] at h
theorem must_isB {E : Int} {st : PSt} {s : List UInt8} (h : (st.must E s).bad = none) : st.isB s = true ∧ st.must E s = st.next ∧ st.bad = none := by
  unfold PSt.must at h ⊢
  by_cases hs : st.isB s = true
  · rw [if_pos hs] at h ⊢
    exact ⟨hs, rfl, h⟩
  · rw [if_neg hs] at h
    obtain ⟨l, b⟩ := st
    cases b <;> simp [PSt.fails] at h
theorem ext_must {E E' : Int} {st : PSt} {s : List UInt8} (h : (st.must E s).bad = none) : (st.ext n R).must E' s = (st.must E s).ext n R := by
  obtain ⟨h1, h2, _⟩ := must_isB h
  rw [h2, ← ext_next h1]
  unfold PSt.must
  rw [if_pos (ext_isB_true st h1)]
theorem ext_signOf (hR : Closers R) (st : PSt) : ∀ (sg : List (List UInt8 × Int)), (∀ p ∈ sg, p.1 ≠ [41]) → signOf (st.ext n R) sg = signOf st sg
  | [], _ => rfl
  | (s, o) :: r, h => by
    simp only [signOf]
    rw [ext_isB hR st (h (s, o) (by simp)), ext_signOf hR st r (fun p hp => h p (by simp [hp]))]
theorem signOf_isB {st : PSt} {o : Int} : ∀ {sg : List (List UInt8 × Int)}, signOf st sg = some o → ∃ s, st.isB s = true
  | [], h => by simp [signOf] at h
  | (s, o') :: r, h => by
    simp only [signOf] at h
    split at h
    · exact ⟨s, by assumption⟩
    · exact signOf_isB h
theorem lvSigns_close (lv : Nat) : ∀ p ∈ lvSigns lv, p.1 ≠ [41] := by
  match lv with
  | 0 => decide
  | 1 => decide
  | 2 => decide
  | 3 => decide
  | k + 4 => simp only [lvSigns]; decide

theorem rowL_bad {one : PSt → Ex × PSt} {sg : List (List UInt8 × Int)} : ∀ (c : Nat) (x : Ex) (st : PSt), st.bad.isSome = true → rowL one sg c x st = (x, st)
  | 0, _, _, _ => rfl
  | c + 1, x, st, h => by simp only [rowL]; rw [if_pos h]

theorem rowL_ext (hR : Closers R) {one one' : PSt → Ex × PSt} (h1 : ∀ st, st.bad = none → (one st).2.bad = none → one' (st.ext n R) = ((one st).1, (one st).2.ext n R)) {sg : List (List UInt8 × Int)} (hsg : ∀ p ∈ sg, p.1 ≠ [41]) :
    ∀ (c : Nat) (x : Ex) (st : PSt), st.bad = none → (rowL one sg c x st).2.bad = none → rowL one' sg c x (st.ext n R) = ((rowL one sg c x st).1, (rowL one sg c x st).2.ext n R)
  | 0, _, _, _, _ => rfl
  | c + 1, x, st, hb, h => by
    have hb1 : st.bad.isSome = false := by rw [hb]; rfl
    have hb2 : (st.ext n R).bad.isSome = false := hb1
    simp only [rowL] at h ⊢
    rw [hb1] at h
    rw [hb1, hb2]
    simp only [Bool.false_eq_true, if_false] at h ⊢
    rw [ext_signOf hR st sg hsg]
    cases hg : signOf st sg with
    | none => rfl
    | some o =>
      rw [hg] at h
      dsimp only at h ⊢
      obtain ⟨s, hs⟩ := signOf_isB hg
      have hbn : (one st.next).2.bad = none := by
        cases hh : (one st.next).2.bad with
        | none => rfl
        | some b =>
          rw [rowL_bad c _ _ (by rw [hh]; rfl)] at h
          exact absurd h (by rw [hh]; simp)
      rw [ext_next hs, h1 st.next hb hbn]
      exact rowL_ext hR h1 hsg c _ _ hbn h

theorem prStep_bad (E : Int) {rec : Nat → PSt → Ex × PSt} (h : ∀ lv st, st.bad.isSome = true → rec lv st = (Ex.zero, st)) (lv : Nat) (st : PSt) (hb : st.bad.isSome = true) : prStep E rec lv st = (Ex.zero, st) := by
  unfold prStep
  split
  · unfold prUnary
    rw [PSt.isB_bad hb, PSt.isB_bad hb]
    exact h 6 st hb
  · split
    · unfold prOne
      rw [if_pos hb]
    · rw [h _ st hb]
      exact rowL_bad _ _ _ hb
theorem pr_bad (E : Int) : ∀ (f lv : Nat) (st : PSt), st.bad.isSome = true → pr E f lv st = (Ex.zero, st)
  | 0, _, _, _ => rfl
  | f + 1, lv, st, hb => prStep_bad E (pr_bad E f) lv st hb

theorem prStep_ext (hR : Closers R) (E E' : Int) {rec rec' : Nat → PSt → Ex × PSt} (HB : ∀ lv st, st.bad.isSome = true → rec lv st = (Ex.zero, st))
    (H : ∀ lv st, st.bad = none → (rec lv st).2.bad = none → rec' lv (st.ext n R) = ((rec lv st).1, (rec lv st).2.ext n R)) (lv : Nat) (st : PSt) (hb : st.bad = none)
    (h : (prStep E rec lv st).2.bad = none) : prStep E' rec' lv (st.ext n R) = ((prStep E rec lv st).1, (prStep E rec lv st).2.ext n R) := by
  have back : ∀ lv st, (rec lv st).2.bad = none → st.bad = none := by
    intro lv st h
    cases hh : st.bad with
    | none => rfl
    | some b =>
      rw [HB lv st (by rw [hh]; rfl)] at h
      exact absurd h (by rw [hh]; simp)
  have hb1 : st.bad.isSome = false := by rw [hb]; rfl
  have hb2 : (st.ext n R).bad.isSome = false := hb1
  unfold prStep at h ⊢
  by_cases h5 : lv = 5
  · rw [if_pos h5] at h ⊢
    rw [if_pos h5]
    unfold prUnary at h ⊢
    rw [ext_isB hR st (by decide), ext_isB hR st (by decide)]
    by_cases c1 : st.isB [45] = true
    · simp only [if_pos c1] at h ⊢
      rw [ext_next c1, H 5 st.next hb h]
    · simp only [if_neg c1] at h ⊢
      by_cases c2 : st.isB [33] = true
      · simp only [if_pos c2] at h ⊢
        rw [ext_next c2, H 5 st.next hb h]
      · simp only [if_neg c2] at h ⊢
        exact H 6 st hb h
  · rw [if_neg h5] at h ⊢
    rw [if_neg h5]
    by_cases h6 : lv = 6
    · rw [if_pos h6] at h ⊢
      rw [if_pos h6]
      unfold prOne at h ⊢
      rw [hb1] at h
      rw [hb1, hb2, ext_numB hR st, ext_isB hR st (s := wKey) (by decide), ext_isB hR st (s := wVal) (by decide), ext_isB hR st (s := wAcc) (by decide), ext_isB hR st (s := [40]) (by decide), ext_isB hR st (s := wIf) (by decide)]
      simp only [Bool.false_eq_true, if_false] at h ⊢
      by_cases c1 : st.numB = true
      · simp only [if_pos c1] at h ⊢
        rw [(ext_num c1).1, (ext_num c1).2]
      · simp only [if_neg c1] at h ⊢
        by_cases c2 : st.isB wKey = true
        · simp only [if_pos c2] at h ⊢
          rw [ext_next c2]
        · simp only [if_neg c2] at h ⊢
          by_cases c3 : st.isB wVal = true
          · simp only [if_pos c3] at h ⊢
            rw [ext_next c3]
          · simp only [if_neg c3] at h ⊢
            by_cases c4 : st.isB wAcc = true
            · simp only [if_pos c4] at h ⊢
              rw [ext_next c4]
            · simp only [if_neg c4] at h ⊢
              by_cases c5 : st.isB [40] = true
              · simp only [if_pos c5] at h ⊢
                rw [ext_next c5, H 0 st.next hb (must_isB h).2.2]
                dsimp only
                rw [ext_must h]
              · simp only [if_neg c5] at h ⊢
                by_cases c6 : st.isB wIf = true
                · simp only [if_pos c6] at h ⊢
                  rw [ext_next c6]
                  unfold prIf at h ⊢
                  dsimp only at h ⊢
                  have q3 := back _ _ h
                  obtain ⟨_, _, g2⟩ := must_isB q3
                  have q2 := back _ _ g2
                  obtain ⟨_, _, g1⟩ := must_isB q2
                  rw [H 0 st.next hb g1]
                  dsimp only
                  rw [ext_must q2, H 0 _ q2 g2]
                  dsimp only
                  rw [ext_must q3, H 0 _ q3 h]
                · simp only [if_neg c6] at h ⊢
                  obtain ⟨l, b⟩ := st
                  cases b <;> simp [PSt.fails] at h
    · rw [if_neg h6] at h ⊢
      rw [if_neg h6]
      have hb3 : (rec (lv + 1) st).2.bad = none := by
        cases hh : (rec (lv + 1) st).2.bad with
        | none => rfl
        | some b =>
          rw [rowL_bad _ _ _ (by rw [hh]; rfl)] at h
          exact absurd h (by rw [hh]; simp)
      rw [H (lv + 1) st hb hb3]
      exact rowL_ext hR (fun st' => H (lv + 1) st') (lvSigns_close lv) _ _ _ hb3 h

theorem pr_ext (hR : Closers R) (E E' : Int) : ∀ (f lv : Nat) (st : PSt), st.bad = none → (pr E f lv st).2.bad = none → pr E' f lv (st.ext n R) = ((pr E f lv st).1, (pr E f lv st).2.ext n R)
  | 0, _, _, _, _ => rfl
  | f + 1, lv, st, hb, h => prStep_ext hR E E' (pr_bad E f) (pr_ext hR E E' f) lv st hb h

theorem prF_ext (hR : Closers R) (E E' : Int) (lv : Nat) (hlv : lv ≤ 6) (st : PSt) (hb : st.bad = none) (h : (prF E lv st).2.bad = none) :
    prF E' lv (st.ext n R) = ((prF E lv st).1, (prF E lv st).2.ext n R) := by
  have hn : st.need lv ≤ (st.ext n R).need lv := by unfold PSt.need PSt.ext; simp; omega
  rw [← prF_of E ((st.ext n R).need lv) lv st hlv hn] at h ⊢
  rw [← prF_of E' ((st.ext n R).need lv) lv (st.ext n R) hlv (Nat.le_refl _)]
  exact pr_ext hR E E' _ lv st hb h
end

theorem isB_only {t : Tok} {l : List Tok} {s s' : List UInt8} (h : t.text.toList = s) (hs : s ≠ s') : (⟨t :: l, none⟩ : PSt).isB s' = false := by
  unfold PSt.isB
  simp only
  rw [h]
  simp [hs]
theorem isB_this {t : Tok} {l : List Tok} {s : List UInt8} (hk : t.kind = 3) (h : t.text.toList = s) : (⟨t :: l, none⟩ : PSt).isB s = true := by
  unfold PSt.isB
  simp only
  rw [h, hk]
  simp

/-- A parenthesis that opens, what it holds, and one that shuts; behind it none that goes on. -/
theorem prF_open (E : Int) {o c : Tok} (ho : o.kind = 3 ∧ o.text.toList = [40]) (hc : c.kind = 3 ∧ c.text.toList = [41]) {l R : List Tok} (hR : Closers R) {x : Ex}
    (h : prF E 0 ⟨l, none⟩ = (x, ⟨c :: R, none⟩)) : ∀ (k lv : Nat), lv + k = 6 → prF E lv ⟨o :: l, none⟩ = (x, ⟨R, none⟩)
  | 0, lv, hk => by
    obtain rfl : lv = 6 := by omega
    rw [prF_one]
    unfold prOne
    have hn : (⟨o :: l, none⟩ : PSt).numB = false := by unfold PSt.numB; simp only; rw [ho.1]; decide
    rw [hn, isB_only ho.2 (by decide), isB_only ho.2 (by decide), isB_only ho.2 (by decide), isB_this ho.1 ho.2]
    simp only [Option.isSome_none, Bool.false_eq_true, if_false, if_true]
    have hnx : (⟨o :: l, none⟩ : PSt).next = ⟨l, none⟩ := rfl
    rw [hnx, h]
    dsimp only
    unfold PSt.must
    rw [isB_this hc.1 hc.2]
    rfl
  | 1, lv, hk => by
    obtain rfl : lv = 5 := by omega
    rw [prF_unary]
    unfold prUnary
    rw [isB_only ho.2 (by decide), isB_only ho.2 (by decide)]
    exact prF_open E ho hc hR h 0 6 (by omega)
  | k + 2, lv, hk => by
    rw [prF_row E lv _ (by omega), prF_open E ho hc hR h (k + 1) (lv + 1) (by omega)]
    dsimp only
    have hs : ∀ sg : List (List UInt8 × Int), (∀ p ∈ sg, p.1 ≠ [41]) → signOf ⟨R, none⟩ sg = none := by
      intro sg
      induction sg with
      | nil => intro _; rfl
      | cons p r ih =>
        intro hp
        obtain ⟨s, o'⟩ := p
        simp only [signOf]
        have hB : (⟨R, none⟩ : PSt).isB s = false := by
          cases R with
          | nil => rfl
          | cons t R => exact isB_only (hR t (by simp)).2 (Ne.symm (hp (s, o') (by simp)))
        rw [hB]
        exact ih fun q hq => hp q (by simp [hq])
    obtain ⟨m, hm⟩ : ∃ m, lvMost lv = m + 1 := ⟨lvMost lv - 1, by unfold lvMost; split <;> rfl⟩
    rw [hm]
    simp only [rowL]
    rw [hs _ (lvSigns_close lv)]
    rfl

/-- So many parentheses. -/
theorem prF_opens (E E' : Int) (n : Int) {l : List Tok} {x : Ex} (h : prF E 0 ⟨l, none⟩ = (x, ⟨[], none⟩)) : ∀ (O C R : List Tok), O.length = C.length → (∀ t ∈ O, t.kind = 3 ∧ t.text.toList = [40]) → Closers C → Closers R →
    prF E' 0 ⟨O ++ (l.map (Tok.sh n) ++ (C ++ R)), none⟩ = (x, ⟨R, none⟩)
  | [], C, R, hl, _, _, hR => by
    obtain rfl : C = [] := by cases C with | nil => rfl | cons _ _ => simp at hl
    have := prF_ext (n := n) hR E E' 0 (by omega) ⟨l, none⟩ rfl (by rw [h])
    rw [h] at this
    exact this
  | o :: O, C, R, hl, hO, hC, hR => by
    obtain ⟨C', c, rfl⟩ : ∃ C' c, C = C' ++ [c] := by
      rcases List.eq_nil_or_concat C with rfl | ⟨C', c, rfl⟩
      · simp at hl
      · exact ⟨C', c, by simp⟩
    have hcR : Closers (c :: R) := by
      intro t ht
      rcases List.mem_cons.1 ht with rfl | ht
      · exact hC _ (by simp)
      · exact hR t ht
    have := prF_opens E E' n h O C' (c :: R) (by simpa using hl) (fun t ht => hO t (by simp [ht])) (fun t ht => hC t (by simp [ht])) hcR
    rw [List.append_assoc C' [c] R]
    exact prF_open E' (hO o (by simp)) (hC c (by simp)) hR this 6 0 (by omega)

-- the tokens

/-- A token that goes on with nothing. -/
theorem tokGo_shut {t : Tok} {out o : List Tok} (hg : ∀ r, goesB t.kind t.text r = false) (he : endTok t out = some o) (pos : Int) (rs : List Int) : tokGo t pos out rs = tokGo Tok.zero pos o rs := by
  have hz : ∀ o, endTok Tok.zero o = some o := fun o => rfl
  have hgz : ∀ r, goesB Tok.zero.kind Tok.zero.text r = false := fun r => by unfold goesB Tok.zero; simp
  cases rs with
  | nil => simp only [tokGo]; rw [he, hz]
  | cons r rs =>
    simp only [tokGo]
    rw [hg, he, hz, hgz]
    simp only [Bool.false_eq_true, if_false]

def paren (r : Int) (p : Int) : Tok := ⟨3, Utf8.encode r, 0, p⟩
theorem kindN_40 : kindN 40 = 3 := by unfold kindN; decide
theorem kindN_41 : kindN 41 = 3 := by unfold kindN; decide
theorem enc_40 : (Utf8.encode 40).toList = [40] := by decide +kernel
theorem enc_41 : (Utf8.encode 41).toList = [41] := by decide +kernel
theorem paren_goes {r : Int} {b : UInt8} (h : (Utf8.encode r).toList = [b]) (h1 : b ≠ 33) (h2 : b ≠ 60) (p x : Int) : goesB (paren r p).kind (paren r p).text x = false := by
  unfold goesB paren
  simp only [if_true]
  rw [h]
  simp [h1, h2]

def opens (pos : Int) : Nat → List Tok
  | 0 => []
  | k + 1 => paren 40 (pos + 1) :: opens (pos + 1) k
def closes (pos : Int) : Nat → List Tok
  | 0 => []
  | k + 1 => paren 41 (pos + 1) :: closes (pos + 1) k
theorem opens_len (pos : Int) : ∀ k, (opens pos k).length = k
  | 0 => rfl
  | k + 1 => by simp only [opens, List.length_cons]; rw [opens_len _ k]
theorem closes_len (pos : Int) : ∀ k, (closes pos k).length = k
  | 0 => rfl
  | k + 1 => by simp only [closes, List.length_cons]; rw [closes_len _ k]
theorem opens_mem : ∀ (k : Nat) (pos : Int) (t : Tok), t ∈ opens pos k → t.kind = 3 ∧ t.text.toList = [40]
  | 0, _, t, h => by simp [opens] at h
  | k + 1, pos, t, h => by
    rcases List.mem_cons.1 h with rfl | h
    · exact ⟨rfl, enc_40⟩
    · exact opens_mem k _ t h
theorem closes_mem : ∀ (k : Nat) (pos : Int), Closers (closes pos k)
  | 0, _ => by intro t h; simp [closes] at h
  | k + 1, pos => by
    intro t h
    rcases List.mem_cons.1 h with rfl | h
    · exact ⟨rfl, enc_41⟩
    · exact closes_mem k _ t h

theorem tokGo_zero_sign {r : Int} (hk : kindN r = 3) (hb : ¬ (r = 32 ∨ r = 9)) (pos : Int) (out : List Tok) (rs : List Int) : tokGo Tok.zero pos out (r :: rs) = tokGo ⟨3, Utf8.encode r, 0, pos + 1⟩ (pos + 1) out rs := by
  have hgz : goesB Tok.zero.kind Tok.zero.text r = false := by unfold goesB Tok.zero; simp
  have hz : endTok Tok.zero out = some out := rfl
  simp only [tokGo]
  rw [hgz, hz, hk]
  simp only [Bool.false_eq_true, if_false]
  rw [if_neg hb, if_neg (by omega)]

theorem tokGo_opens (rs : List Int) : ∀ (k : Nat) (pos : Int) (out : List Tok), tokGo Tok.zero pos out (List.replicate k 40 ++ rs) = tokGo Tok.zero (pos + k) (out ++ opens pos k) rs
  | 0, pos, out => by simp [opens]
  | k + 1, pos, out => by
    rw [List.replicate_succ, List.cons_append, tokGo_zero_sign kindN_40 (by omega)]
    have hg : ∀ x, goesB (paren 40 (pos + 1)).kind (paren 40 (pos + 1)).text x = false := fun x => paren_goes enc_40 (by decide) (by decide) _ x
    show tokGo (paren 40 (pos + 1)) (pos + 1) out _ = _
    rw [tokGo_shut (t := paren 40 (pos + 1)) hg (o := out ++ [paren 40 (pos + 1)]) rfl, tokGo_opens rs k, opens, List.append_assoc, List.singleton_append]
    congr 1
    omega

theorem goes_41 (t : Tok) : goesB t.kind t.text 41 = false := by
  unfold goesB
  by_cases h : t.kind = 3
  · rw [if_pos h]; simp
  · rw [if_neg h, kindN_41]
    have : decide ((3 : Int) = t.kind) = false := by simp; omega
    rw [this, Bool.and_false]
theorem tokGo_closes : ∀ (k : Nat) (t : Tok) (pos : Int) (out : List Tok), tokGo t pos out (List.replicate k 41) = match endTok t out with
    | none => ([], t.at_, 71)
    | some o => (o ++ closes pos k, 0, 0)
  | 0, t, pos, out => by
    simp only [List.replicate, tokGo, closes]
    cases endTok t out <;> simp
  | k + 1, t, pos, out => by
    rw [List.replicate_succ]
    simp only [tokGo]
    rw [goes_41, kindN_41]
    simp only [Bool.false_eq_true, if_false]
    cases he : endTok t out with
    | none => rfl
    | some o =>
      simp only
      rw [if_neg (by omega), if_neg (by omega)]
      have hg : ∀ x, goesB (paren 41 (pos + 1)).kind (paren 41 (pos + 1)).text x = false := fun x => paren_goes enc_41 (by decide) (by decide) _ x
      have := tokGo_shut (t := paren 41 (pos + 1)) (out := o) (o := o ++ [paren 41 (pos + 1)]) hg rfl (pos + 1) (List.replicate k 41)
      show tokGo (paren 41 (pos + 1)) (pos + 1) o (List.replicate k 41) = _
      rw [this, tokGo_closes k]
      have hz : ∀ o, endTok Tok.zero o = some o := fun o => rfl
      rw [hz]
      simp [closes]

/-- One token and the same one, n further on. -/
def TokSh (n : Int) (t t' : Tok) : Prop := t'.kind = t.kind ∧ t'.text = t.text ∧ t'.n = t.n ∧ (t.kind ≠ 0 → t'.at_ = t.at_ + n)
theorem endTok_sh {n : Int} {t t' : Tok} (h : TokSh n t t') (P out : List Tok) : endTok t' (P ++ out.map (Tok.sh n)) = (endTok t out).map (fun o => P ++ o.map (Tok.sh n)) := by
  obtain ⟨k, tx, m, a⟩ := t
  obtain ⟨k', tx', m', a'⟩ := t'
  obtain ⟨h1, h2, h3, h4⟩ := h
  dsimp only at h1 h2 h3 h4
  subst h1 h2 h3
  unfold endTok
  dsimp only
  by_cases hk : k' = 2
  · rw [if_pos hk, if_pos hk, h4 (by omega)]
    cases numGo 0 (runes tx') <;> simp [Tok.sh]
  · rw [if_neg hk, if_neg hk]
    by_cases h0 : k' = 0
    · rw [if_pos h0, if_pos h0]; rfl
    · rw [if_neg h0, if_neg h0, h4 h0]; simp [Tok.sh]
theorem endTok_none {t : Tok} {out : List Tok} (h : endTok t out = none) : t.kind = 2 := by
  unfold endTok at h
  by_cases hk : t.kind = 2
  · exact hk
  · rw [if_neg hk] at h
    split at h <;> simp at h
def shEnd (n : Int) (P : List Tok) (q : Int) (m : Nat) (p : List Tok × Int × Int) : List Tok × Int × Int :=
  if p.2.2 = 0 then (P ++ p.1.map (Tok.sh n) ++ closes q m, 0, 0) else ([], p.2.1 + n, p.2.2)
theorem tokGo_sh (n : Int) (P : List Tok) (m : Nat) : ∀ (rs : List Int) (t t' : Tok) (pos : Int) (out : List Tok), TokSh n t t' →
    tokGo t' (pos + n) (P ++ out.map (Tok.sh n)) (rs ++ List.replicate m 41) = shEnd n P (pos + n + rs.length) m (tokGo t pos out rs)
  | [], t, t', pos, out, h => by
    rw [List.nil_append, tokGo_closes, endTok_sh h]
    simp only [tokGo]
    cases he : endTok t out with
    | none =>
      have hk := endTok_none he
      simp only [Option.map_none, shEnd]
      rw [h.2.2.2 (by omega)]
      simp
    | some o => simp [shEnd]
  | r :: rs, t, t', pos, out, h => by
    have hg : goesB t'.kind t'.text r = goesB t.kind t.text r := by rw [h.1, h.2.1]
    rw [List.cons_append]
    simp only [tokGo]
    rw [hg, endTok_sh h]
    have hq : pos + n + ((r :: rs).length : Int) = pos + 1 + n + (rs.length : Int) := by simp; omega
    have hp : pos + n + 1 = pos + 1 + n := by omega
    rw [hq, hp]
    by_cases c : goesB t.kind t.text r = true
    · rw [if_pos c, if_pos c]
      refine tokGo_sh n P m rs _ _ (pos + 1) out ⟨h.1, ?_, h.2.2.1, h.2.2.2⟩
      show t'.text ++ _ = t.text ++ _
      rw [h.2.1]
    · rw [if_neg c, if_neg c]
      cases he : endTok t out with
      | none =>
        have hk := endTok_none he
        simp only [Option.map_none, shEnd]
        rw [h.2.2.2 (by omega)]
        simp
      | some o =>
        simp only [Option.map_some]
        by_cases hb : r = 32 ∨ r = 9
        · rw [if_pos hb, if_pos hb]
          exact tokGo_sh n P m rs Tok.zero Tok.zero (pos + 1) o ⟨rfl, rfl, rfl, fun h => absurd rfl h⟩
        · rw [if_neg hb, if_neg hb]
          by_cases h0 : kindN r = 0
          · rw [if_pos h0, if_pos h0]
            simp only [shEnd]
            simp
          · rw [if_neg h0, if_neg h0]
            exact tokGo_sh n P m rs _ _ (pos + 1) o ⟨rfl, rfl, rfl, fun _ => rfl⟩

theorem runesAt_lead (s t : ByteArray) (ha : ∀ b ∈ s.data.toList, b.toNat < 128) : ∀ n i, i ≤ s.size → s.size - i = n → runesAt (s ++ t) i = runesAt s i ++ runes t := by
  intro n
  induction n with
  | zero =>
    intro i h1 h2
    obtain rfl : i = s.size := by omega
    rw [runesAt_end s _ (by omega), List.nil_append]
    have := runesAt_right s t _ 0 rfl
    rw [Nat.add_zero] at this
    exact this
  | succ n ih =>
    intro i h1 h2
    have hi : i < s.size := by omega
    have hl : i < s.data.toList.length := by rw [← Lib.size_eq]; exact hi
    have hb : bt s i < 128 := by
      unfold bt
      rw [get_getD]
      have : s.data.toList.getD i 0 = s.data.toList[i] := by rw [List.getD_eq_getElem?_getD, List.getElem?_eq_getElem hl]; rfl
      rw [this]
      exact ha _ (List.getElem_mem hl)
    have hd : Utf8.decode (s ++ t) i = Utf8.decode s i := by
      rw [decode_eq, decode_eq, bt_left s t i hi, if_pos hb, if_pos hb]
    have hd2 : Utf8.decode s i = (bt s i, 1) := by rw [decode_eq, if_pos hb]
    rw [runesAt_step _ _ (by rw [ByteArray.size_append]; omega), runesAt_step _ _ hi, hd, hd2]
    dsimp only
    rw [ih (i + 1) (by omega) (by omega)]
    rfl
/-- Runes of two strings in a row, the first of which is ASCII. -/
theorem runes_lead (s t : ByteArray) (ha : ∀ b ∈ s.data.toList, b.toNat < 128) : runes (s ++ t) = runes s ++ runes t := runesAt_lead s t ha _ 0 (Nat.zero_le _) rfl

/-- So many of one byte. -/
def bytesOf (b : UInt8) (n : Nat) : ByteArray := ⟨(List.replicate n b).toArray⟩
theorem bytesOf_size (b : UInt8) (n : Nat) : (bytesOf b n).size = n := by show (List.replicate n b).toArray.size = n; simp
theorem bytesOf_ascii (b : UInt8) (h : b.toNat < 128) (n : Nat) : ∀ c ∈ (bytesOf b n).data.toList, c.toNat < 128 := by
  intro c hc
  have : c ∈ List.replicate n b := by simpa [bytesOf] using hc
  rw [List.eq_of_mem_replicate this]
  exact h
theorem bytesOf_runes (b : UInt8) (h : b.toNat < 128) (n : Nat) : runes (bytesOf b n) = List.replicate n (b.toNat : Int) := by
  rw [runes_ascii _ (bytesOf_ascii b h n)]
  simp [bytesOf]
theorem bytesOf_first (b : UInt8) (h : b.toNat < 128) (n : Nat) : (bytesOf b n).size = 0 ∨ bt (bytesOf b n) 0 < 128 := by
  cases n with
  | zero => exact .inl rfl
  | succ n =>
    refine .inr ?_
    unfold bt
    rw [get_getD]
    exact h

theorem toks_parens (s : ByteArray) (n : Nat) (h : s.size + 2 * n ≤ 400) :
    toks (bytesOf 40 n ++ s ++ bytesOf 41 n) = shEnd n (opens (-1) n) ((n : Int) - 1 + (runes s).length) n (toks s) ∧ (runes (bytesOf 40 n ++ s ++ bytesOf 41 n)).length = (runes s).length + 2 * n := by
  have hr : runes (bytesOf 40 n ++ s ++ bytesOf 41 n) = List.replicate n 40 ++ (runes s ++ List.replicate n 41) := by
    rw [runes_append _ _ (bytesOf_first 41 (by decide) n), runes_lead _ _ (bytesOf_ascii 40 (by decide) n), bytesOf_runes 40 (by decide), bytesOf_runes 41 (by decide), List.append_assoc]
    rfl
  refine ⟨?_, by rw [hr]; simp; omega⟩
  have hz : (bytesOf 40 n ++ s ++ bytesOf 41 n).size = s.size + 2 * n := by
    rw [ByteArray.size_append, ByteArray.size_append, bytesOf_size, bytesOf_size]; omega
  unfold toks
  rw [if_neg (by omega), if_neg (by omega), hr, tokGo_opens]
  have h2 := tokGo_sh n (opens (-1) n) n (runes s) Tok.zero Tok.zero (-1) [] ⟨rfl, rfl, rfl, fun h => absurd rfl h⟩
  rw [List.map_nil, List.append_nil] at h2
  rw [List.nil_append, h2]
  congr 1

theorem shEnd_ok {n : Int} {P : List Tok} {q : Int} {m : Nat} {p : List Tok × Int × Int} (h : p.2.2 = 0) : shEnd n P q m p = (P ++ p.1.map (Tok.sh n) ++ closes q m, 0, 0) := if_pos h
theorem shEnd_no {n : Int} {P : List Tok} {q : Int} {m : Nat} {p : List Tok × Int × Int} (h : p.2.2 ≠ 0) : shEnd n P q m p = ([], p.2.1 + n, p.2.2) := if_neg h

theorem parseEnd_not80 {E : Int} {x : Ex} {st : PSt} (h : (parseEnd E x st).2.2 ≠ 80) : st = ⟨[], none⟩ := by
  unfold parseEnd at h
  obtain ⟨l, b⟩ := st
  cases l with
  | nil =>
    cases b with
    | none => rfl
    | some b => exact absurd rfl h
  | cons t l =>
    cases b with
    | none => exact absurd rfl h
    | some b => exact absurd rfl h

/-- Parentheses around a text make no difference. -/
theorem parse_parens (s : ByteArray) (n : Nat) (h : s.size + 2 * n ≤ 400) (he : (parse s).2.2 ≠ 80) :
    (parse (bytesOf 40 n ++ s ++ bytesOf 41 n)).1 = (parse s).1 ∧ (parse (bytesOf 40 n ++ s ++ bytesOf 41 n)).2.2 = (parse s).2.2 ∧
      ((parse s).2.2 = 0 ∨ (parse s).2.2 = 81 ∨ (parse (bytesOf 40 n ++ s ++ bytesOf 41 n)).2.1 = (parse s).2.1 + n) := by
  obtain ⟨h1, h2⟩ := toks_parens s n h
  unfold parse at he ⊢
  rw [h1, h2]
  by_cases ht : (toks s).2.2 = 0
  · rw [shEnd_ok ht, if_neg (c := (toks s).2.2 ≠ 0) (fun h => h ht)]
    rw [if_neg (fun h => h ht)] at he
    dsimp only at he ⊢
    rw [if_neg (by simp)]
    have hst := parseEnd_not80 he
    have hp : prF ((runes s).length : Int) 0 ⟨(toks s).1, none⟩ = ((prF ((runes s).length : Int) 0 ⟨(toks s).1, none⟩).1, ⟨[], none⟩) := by rw [← hst]
    have hq := prF_opens ((runes s).length : Int) ((((runes s).length + 2 * n : Nat)) : Int) n hp (opens (-1) n) (closes ((n : Int) - 1 + (runes s).length) n) [] (by rw [opens_len, closes_len])
      (opens_mem n (-1)) (closes_mem n _) (by intro t h; simp at h)
    rw [List.append_nil, ← List.append_assoc] at hq
    rw [hq, hst]
    have hd : ∀ (E E' : Int) (x : Ex), parseEnd E x ⟨[], none⟩ = parseEnd E' x ⟨[], none⟩ := fun _ _ _ => rfl
    have h3 : ∀ (E : Int) (x : Ex), (parseEnd E x ⟨[], none⟩).2.2 = 0 ∨ (parseEnd E x ⟨[], none⟩).2.2 = 81 := by
      intro E x
      unfold parseEnd
      simp only [if_true]
      split <;> simp
    dsimp only
    rw [hd _ ((runes s).length : Int)]
    refine ⟨rfl, rfl, ?_⟩
    rcases h3 ((runes s).length : Int) (prF ((runes s).length : Int) 0 ⟨(toks s).1, none⟩).1 with h | h
    · exact .inl h
    · exact .inr (.inl h)
  · rw [shEnd_no ht]
    rw [if_pos ht] at he ⊢
    dsimp only at he ⊢
    rw [if_pos ht]
    exact ⟨rfl, rfl, .inr (.inr rfl)⟩

end Go.Proofs.YtjbchkgkapccnaaGreatDoor
