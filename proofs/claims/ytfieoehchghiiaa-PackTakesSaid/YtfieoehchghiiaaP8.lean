/-
  Plain definitions: what the readers of expressions compute; first laws on them.
-/
import Derived.Test.YtfieoehchghiiaaS7
import Derived.Test.YtfieoehchghiiaaE0
namespace Go.Proofs.Ytfieoehchghiiaa
open Go.RowKit
set_option linter.unusedVariables false

def Ex.zero : Ex := .mk 0 0 []

/-- What is left to be read, and where it went wrong. -/
structure PSt where
  l : List Tok
  bad : Option Int

namespace PSt
/-- The place of the next token; the text ends at E. -/
def here (E : Int) (st : PSt) : Int := match st.l with | [] => E | t :: _ => t.at_
def fails (E : Int) (st : PSt) : PSt := match st.bad with | none => { st with bad := some (st.here E) } | some _ => st
def isB (st : PSt) (s : List UInt8) : Bool := st.bad.isNone && (match st.l with | [] => false | t :: _ => decide (t.kind ≠ 0) && (decide (t.kind ≠ 2) && decide (t.text.toList = s)))
def next (st : PSt) : PSt := { st with l := st.l.drop 1 }
def must (E : Int) (st : PSt) (s : List UInt8) : PSt := if st.isB s then st.next else st.fails E
def numB (st : PSt) : Bool := match st.l with | [] => false | t :: _ => decide (t.kind = 2)
def numN (st : PSt) : Int := match st.l with | [] => 0 | t :: _ => t.n
def need (lv : Nat) (st : PSt) : Nat := 8 * st.l.length + (7 - lv)

theorem next_le (st : PSt) : st.next.l.length ≤ st.l.length := by simp [next]
theorem next_lt {st : PSt} {s : List UInt8} (h : st.isB s = true) : st.next.l.length < st.l.length := by
  obtain ⟨l, b⟩ := st
  cases l with
  | nil => simp [isB] at h
  | cons t l => simp [next]
theorem fails_l (E : Int) (st : PSt) : (st.fails E).l = st.l := by unfold fails; split <;> rfl
theorem must_le (E : Int) (st : PSt) (s : List UInt8) : (st.must E s).l.length ≤ st.l.length := by
  unfold must
  split
  · exact next_le st
  · rw [fails_l]; exact Nat.le_refl _
theorem isB_bad {st : PSt} {s : List UInt8} (h : st.bad.isSome = true) : st.isB s = false := by
  obtain ⟨l, b⟩ := st
  cases b <;> simp_all [isB]
theorem isB_good {st : PSt} {s : List UInt8} (h : st.isB s = true) : st.bad = none := by
  obtain ⟨l, b⟩ := st
  cases b <;> simp_all [isB]
end PSt

/-- The signs of a level, with what they make. -/
def lvSigns : Nat → List (List UInt8 × Int)
  | 0 => [([124], 17)]
  | 1 => [([38], 16)]
  | 2 => [([60], 12), ([60, 61], 13), ([61], 14), ([33, 61], 15)]
  | 3 => [([43], 7), ([45], 8)]
  | _ => [([42], 9), ([47], 10), ([37], 11)]
def lvMost (lv : Nat) : Nat := if lv = 2 then 1 else 400

def signOf (st : PSt) : List (List UInt8 × Int) → Option Int
  | [] => none
  | (s, o) :: r => if st.isB s then some o else signOf st r

theorem signOf_lt {st : PSt} {o : Int} : ∀ {sg : List (List UInt8 × Int)}, signOf st sg = some o → st.next.l.length < st.l.length
  | [], h => by simp [signOf] at h
  | (s, o') :: r, h => by
    simp only [signOf] at h
    split at h
    · exact PSt.next_lt (by assumption)
    · exact signOf_lt h

/-- What goes together from the left. -/
def rowL (one : PSt → Ex × PSt) (sg : List (List UInt8 × Int)) : Nat → Ex → PSt → Ex × PSt
  | 0, x, st => (x, st)
  | c + 1, x, st => if st.bad.isSome then (x, st) else match signOf st sg with
    | none => (x, st)
    | some o => rowL one sg c (.mk o 0 [x, (one st.next).1]) (one st.next).2

def wKey : List UInt8 := [107, 101, 121]
def wVal : List UInt8 := [118, 97, 108]
def wAcc : List UInt8 := [97, 99, 99]
def wIf : List UInt8 := [105, 102]
def wThen : List UInt8 := [116, 104, 101, 110]
def wElse : List UInt8 := [101, 108, 115, 101]

def prUnary (rec : Nat → PSt → Ex × PSt) (st : PSt) : Ex × PSt :=
  if st.isB [45] then (.mk 5 0 [(rec 5 st.next).1], (rec 5 st.next).2)
  else if st.isB [33] then (.mk 6 0 [(rec 5 st.next).1], (rec 5 st.next).2)
  else rec 6 st
/-- What stands behind the word 'if'. -/
def prIf (E : Int) (rec : Nat → PSt → Ex × PSt) (st : PSt) : Ex × PSt :=
  (.mk 18 0 [(rec 0 st).1, (rec 0 ((rec 0 st).2.must E wThen)).1, (rec 0 ((rec 0 ((rec 0 st).2.must E wThen)).2.must E wElse)).1], (rec 0 ((rec 0 ((rec 0 st).2.must E wThen)).2.must E wElse)).2)
def prOne (E : Int) (rec : Nat → PSt → Ex × PSt) (st : PSt) : Ex × PSt :=
  if st.bad.isSome then (Ex.zero, st)
  else if st.numB then (.mk 1 st.numN [], st.next)
  else if st.isB wKey then (.mk 2 0 [], st.next)
  else if st.isB wVal then (.mk 3 0 [], st.next)
  else if st.isB wAcc then (.mk 4 0 [], st.next)
  else if st.isB [40] then ((rec 0 st.next).1, (rec 0 st.next).2.must E [41])
  else if st.isB wIf then prIf E rec st.next
  else (Ex.zero, st.fails E)
def prStep (E : Int) (rec : Nat → PSt → Ex × PSt) (lv : Nat) (st : PSt) : Ex × PSt :=
  if lv = 5 then prUnary rec st else if lv = 6 then prOne E rec st
  else rowL (rec (lv + 1)) (lvSigns lv) (lvMost lv) (rec (lv + 1) st).1 (rec (lv + 1) st).2

/-- The rules: the levels 0 to 4 (or, and, cmp, sum, term), 5 (unary), 6 (one). -/
def pr (E : Int) : Nat → Nat → PSt → Ex × PSt
  | 0, _, st => (Ex.zero, st)
  | f + 1, lv, st => prStep E (pr E f) lv st

theorem rowL_len {one : PSt → Ex × PSt} (h : ∀ st, (one st).2.l.length ≤ st.l.length) (sg : List (List UInt8 × Int)) : ∀ c x st, (rowL one sg c x st).2.l.length ≤ st.l.length
  | 0, x, st => Nat.le_refl _
  | c + 1, x, st => by
    simp only [rowL]
    split
    · exact Nat.le_refl _
    · split
      · exact Nat.le_refl _
      · exact Nat.le_trans (rowL_len h sg c _ _) (Nat.le_trans (h _) (PSt.next_le st))

theorem prStep_len (E : Int) {rec : Nat → PSt → Ex × PSt} (h : ∀ lv st, (rec lv st).2.l.length ≤ st.l.length) (lv : Nat) (st : PSt) : (prStep E rec lv st).2.l.length ≤ st.l.length := by
  have hn := PSt.next_le st
  unfold prStep
  split
  · unfold prUnary
    repeat' split
    all_goals first | exact h _ _ | exact Nat.le_trans (h _ _) hn
  · split
    · unfold prOne
      repeat' split
      all_goals first
        | exact Nat.le_refl _
        | exact hn
        | exact Nat.le_trans (PSt.must_le _ _ _) (Nat.le_trans (h _ _) hn)
        | (show (st.fails E).l.length ≤ _; rw [PSt.fails_l]; exact Nat.le_refl _)
        | (unfold prIf; exact Nat.le_trans (h _ _) (Nat.le_trans (PSt.must_le _ _ _) (Nat.le_trans (h _ _) (Nat.le_trans (PSt.must_le _ _ _) (Nat.le_trans (h _ _) hn)))))
    · exact Nat.le_trans (rowL_len (fun st => h _ st) _ _ _ _) (h _ _)

theorem pr_len (E : Int) : ∀ f lv st, (pr E f lv st).2.l.length ≤ st.l.length
  | 0, _, _ => Nat.le_refl _
  | f + 1, lv, st => prStep_len E (pr_len E f) lv st

theorem rowL_congr {one one' : PSt → Ex × PSt} (hl : ∀ st, (one st).2.l.length ≤ st.l.length) (sg : List (List UInt8 × Int)) (n : Nat) (h : ∀ st, st.l.length < n → one st = one' st) :
    ∀ c x st, st.l.length ≤ n → rowL one sg c x st = rowL one' sg c x st
  | 0, _, _, _ => rfl
  | c + 1, x, st, hs => by
    simp only [rowL]
    cases hb : st.bad.isSome
    · cases hg : signOf st sg with
      | none => rfl
      | some o =>
        have h1 := signOf_lt hg
        have h2 := hl st.next
        simp only [Bool.false_eq_true, if_false]
        rw [← h st.next (by omega)]
        exact rowL_congr hl sg n h c _ _ (by omega)
    · rfl

theorem rowL_count {one : PSt → Ex × PSt} (hl : ∀ st, (one st).2.l.length ≤ st.l.length) (sg : List (List UInt8 × Int)) :
    ∀ c c' x st, st.l.length < c → st.l.length < c' → rowL one sg c x st = rowL one sg c' x st
  | 0, _, _, _, h, _ => by omega
  | c + 1, 0, _, _, _, h => by omega
  | c + 1, c' + 1, x, st, h, h' => by
    simp only [rowL]
    cases hb : st.bad.isSome
    · cases hg : signOf st sg with
      | none => rfl
      | some o =>
        have h1 := signOf_lt hg
        have h2 := hl st.next
        simp only [Bool.false_eq_true, if_false]
        exact rowL_count hl sg c c' _ _ (by omega) (by omega)
    · rfl

theorem prStep_congr (E : Int) {rec rec' : Nat → PSt → Ex × PSt} (hl : ∀ lv st, (rec lv st).2.l.length ≤ st.l.length) (lv : Nat) (hlv : lv ≤ 6) (st : PSt)
    (h : ∀ lv' st', lv' ≤ 6 → st'.need lv' < st.need lv → rec lv' st' = rec' lv' st') : prStep E rec lv st = prStep E rec' lv st := by
  unfold PSt.need at h
  unfold prStep
  by_cases h5 : lv = 5
  · subst h5
    simp only [if_true]
    unfold prUnary
    by_cases h1 : st.isB [45] = true
    · have := PSt.next_lt h1
      rw [if_pos h1, if_pos h1, h 5 st.next (by omega) (by omega)]
    · rw [if_neg h1, if_neg h1]
      by_cases h2 : st.isB [33] = true
      · have := PSt.next_lt h2
        rw [if_pos h2, if_pos h2, h 5 st.next (by omega) (by omega)]
      · rw [if_neg h2, if_neg h2, h 6 st (by omega) (by omega)]
  · rw [if_neg h5, if_neg h5]
    by_cases h6 : lv = 6
    · subst h6
      simp only [if_true]
      unfold prOne
      by_cases h1 : st.isB [40] = true
      · have := PSt.next_lt h1
        rw [h 0 st.next (by omega) (by omega)]
        by_cases h2 : st.isB wIf = true
        · simp only [if_pos h1]
        · simp only [if_pos h1]
      · simp only [if_neg h1]
        by_cases h2 : st.isB wIf = true
        · have hn := PSt.next_lt h2
          simp only [if_pos h2]
          unfold prIf
          have q1 := h 0 st.next (by omega) (by omega)
          have l1 := hl 0 st.next
          have m1 := PSt.must_le E (rec 0 st.next).2 wThen
          have q2 := h 0 ((rec 0 st.next).2.must E wThen) (by omega) (by omega)
          have l2 := hl 0 ((rec 0 st.next).2.must E wThen)
          have m2 := PSt.must_le E (rec 0 ((rec 0 st.next).2.must E wThen)).2 wElse
          have q3 := h 0 ((rec 0 ((rec 0 st.next).2.must E wThen)).2.must E wElse) (by omega) (by omega)
          rw [q3, q2, q1]
        · simp only [if_neg h2]
    · rw [if_neg h6, if_neg h6, h (lv + 1) st (by omega) (by omega)]
      refine rowL_congr (fun st => ?_) _ st.l.length (fun st' hs' => h _ _ (by omega) (by omega)) _ _ _ ?_
      · exact hl _ _
      · rw [← h (lv + 1) st (by omega) (by omega)]; exact hl _ _

theorem pr_fuel (E : Int) : ∀ f g lv st, lv ≤ 6 → st.need lv ≤ f → st.need lv ≤ g → pr E f lv st = pr E g lv st
  | 0, _, lv, st, hlv, h, _ => by unfold PSt.need at h; omega
  | f + 1, 0, lv, st, hlv, _, h => by unfold PSt.need at h; omega
  | f + 1, g + 1, lv, st, hlv, h, h' => prStep_congr E (pr_len E f) lv hlv st fun lv' st' hlv' hn => pr_fuel E f g lv' st' hlv' (by omega) (by omega)

/-- The rules, with as much fuel as they need. -/
def prF (E : Int) (lv : Nat) (st : PSt) : Ex × PSt := pr E (st.need lv) lv st
theorem prF_len (E : Int) (lv : Nat) (st : PSt) : (prF E lv st).2.l.length ≤ st.l.length := pr_len E _ lv st
theorem prF_of (E : Int) (f lv : Nat) (st : PSt) (hlv : lv ≤ 6) (h : st.need lv ≤ f) : pr E f lv st = prF E lv st := pr_fuel E _ _ lv st hlv h (Nat.le_refl _)
theorem prF_eq (E : Int) (lv : Nat) (st : PSt) (hlv : lv ≤ 6) : prF E lv st = prStep E (prF E) lv st := by
  obtain ⟨f, hf⟩ : ∃ f, st.need lv = f + 1 := ⟨st.need lv - 1, by unfold PSt.need; omega⟩
  unfold prF
  rw [hf]
  exact prStep_congr E (pr_len E f) lv hlv st fun lv' st' hlv' hn => by rw [prF_of E f lv' st' hlv' (by omega)]; rfl

theorem prF_row (E : Int) (lv : Nat) (st : PSt) (hlv : lv < 5) : prF E lv st = rowL (prF E (lv + 1)) (lvSigns lv) (lvMost lv) (prF E (lv + 1) st).1 (prF E (lv + 1) st).2 := by
  rw [prF_eq E lv st (by omega)]
  unfold prStep
  rw [if_neg (by omega), if_neg (by omega)]
theorem prF_unary (E : Int) (st : PSt) : prF E 5 st = prUnary (prF E) st := by rw [prF_eq E 5 st (by omega)]; rfl
theorem prF_one (E : Int) (st : PSt) : prF E 6 st = prOne E (prF E) st := by rw [prF_eq E 6 st (by omega)]; rfl

/-- How deep an expression is, k levels being left. -/
def deepN : Nat → Ex → Nat
  | 0, _ => 1
  | k + 1, x => x.args.foldl (fun n a => max n (deepN k a)) 0 + 1
theorem deepN_le : ∀ (k : Nat) (x : Ex), deepN k x ≤ k + 1
  | 0, _ => by simp [deepN]
  | k + 1, x => by
    simp only [deepN]
    have : ∀ (l : List Ex) (n : Nat), n ≤ k + 1 → l.foldl (fun n a => max n (deepN k a)) n ≤ k + 1 := by
      intro l
      induction l with
      | nil => intro n h; simpa using h
      | cons a l ih => intro n h; exact ih _ (by have := deepN_le k a; show max n (deepN k a) ≤ k + 1; omega)
    have := this x.args 0 (by omega)
    omega

/-- What is told of the last state: an expression, a place, an error. -/
def parseEnd (E : Int) (x : Ex) (st : PSt) : Ex × Int × Int :=
  match (if st.l = [] then st else st.fails E).bad with
  | some a => (Ex.zero, a, 80)
  | none => if 16 < deepN 16 x then (Ex.zero, 0, 81) else (x, 0, 0)

/-- What expr.Parse tells: an expression, a place, an error. -/
def parse (s : ByteArray) : Ex × Int × Int :=
  if (toks s).2.2 ≠ 0 then (Ex.zero, (toks s).2.1, (toks s).2.2)
  else parseEnd (runes s).length (prF (runes s).length 0 ⟨(toks s).1, none⟩).1 (prF (runes s).length 0 ⟨(toks s).1, none⟩).2

end Go.Proofs.Ytfieoehchghiiaa
