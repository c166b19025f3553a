/-
  Plain definitions: what the readers of expressions compute; first laws on them.
  Walks: the reader's next, is, fails, must.
  Expressions that lie in blocks of a set; what the readers leave; walks: the closure of row, slices.IndexFunc at signs.
  Walks: the reader's row.
  Walks: the reader's levels (or, and, cmp, sum, term), unary, one.
  Walks: expr.Deep (its closure).
  Walks of the reference's expressions: deep, Deep, args, shaped, May.
-/
import Derived.Test.YtjbchkgkapccnaaGreatDoorMA
import Derived.Test.YtjbchkgkapccnaaGreatDoorChecked
import Derived.Deep.DrawnRows
import Derived.Shelf.Abstract
import Derived.Test.YtjbchkgkapccnaaGreatDoorME
import Derived.Laws.EntriesVeiled

namespace Go.Proofs.YtjbchkgkapccnaaGreatDoor
open Go.RowKit
set_option linter.unusedVariables false

def Ex.zero : Ex := .mk 0 0 []

/-- What is left to be read, and where it went wrong. -/
structure PSt where
  l : List Tok
  bad : Option Int

namespace PSt
/-- The place of the next token; the text ends at E. -/
def here (E : Int) (st : PSt) : Int := match st.l with | [] => E | t :: _ => t.at_
def fails (E : Int) (st : PSt) : PSt := match st.bad with | none => { st with bad := some (st.here E) } | some _ => st
def isB (st : PSt) (s : List UInt8) : Bool := st.bad.isNone && (match st.l with | [] => false | t :: _ => decide (t.kind ≠ 0) && (decide (t.kind ≠ 2) && decide (t.text.toList = s)))
def next (st : PSt) : PSt := { st with l := st.l.drop 1 }
def must (E : Int) (st : PSt) (s : List UInt8) : PSt := if st.isB s then st.next else st.fails E
def numB (st : PSt) : Bool := match st.l with | [] => false | t :: _ => decide (t.kind = 2)
def numN (st : PSt) : Int := match st.l with | [] => 0 | t :: _ => t.n
def need (lv : Nat) (st : PSt) : Nat := 8 * st.l.length + (7 - lv)

theorem next_le (st : PSt) : st.next.l.length ≤ st.l.length := by simp [next]
theorem next_lt {st : PSt} {s : List UInt8} (h : st.isB s = true) : st.next.l.length < st.l.length := by
  obtain ⟨l, b⟩ := st
  cases l with
  | nil => simp [isB] at h
  | cons t l => simp [next]
theorem fails_l (E : Int) (st : PSt) : (st.fails E).l = st.l := by unfold fails; split <;> rfl
theorem must_le (E : Int) (st : PSt) (s : List UInt8) : (st.must E s).l.length ≤ st.l.length := by
  unfold must
  split
  · exact next_le st
  · rw [fails_l]; exact Nat.le_refl _
theorem isB_bad {st : PSt} {s : List UInt8} (h : st.bad.isSome = true) : st.isB s = false := by
  obtain ⟨l, b⟩ := st
  cases b <;> simp_all [isB]
theorem isB_good {st : PSt} {s : List UInt8} (h : st.isB s = true) : st.bad = none := by
  obtain ⟨l, b⟩ := st
  cases b <;> simp_all [isB]
end PSt

/-- The signs of a level, with what they make. -/
def lvSigns : Nat → List (List UInt8 × Int)
  | 0 => [([124], 17)]
  | 1 => [([38], 16)]
  | 2 => [([60], 12), ([60, 61], 13), ([61], 14), ([33, 61], 15)]
  | 3 => [([43], 7), ([45], 8)]
  | _ => [([42], 9), ([47], 10), ([37], 11)]
def lvMost (lv : Nat) : Nat := if lv = 2 then 1 else 400

def signOf (st : PSt) : List (List UInt8 × Int) → Option Int
  | [] => none
  | (s, o) :: r => if st.isB s then some o else signOf st r

theorem signOf_lt {st : PSt} {o : Int} : ∀ {sg : List (List UInt8 × Int)}, signOf st sg = some o → st.next.l.length < st.l.length
  | [], h => by simp [signOf] at h
  | (s, o') :: r, h => by
    simp only [signOf] at h
    split at h
    · exact PSt.next_lt (by assumption)
    · exact signOf_lt h

/-- What goes together from the left. -/
def rowL (one : PSt → Ex × PSt) (sg : List (List UInt8 × Int)) : Nat → Ex → PSt → Ex × PSt
  | 0, x, st => (x, st)
  | c + 1, x, st => if st.bad.isSome then (x, st) else match signOf st sg with
    | none => (x, st)
    | some o => rowL one sg c (.mk o 0 [x, (one st.next).1]) (one st.next).2

def wKey : List UInt8 := [107, 101, 121]
def wVal : List UInt8 := [118, 97, 108]
def wAcc : List UInt8 := [97, 99, 99]
def wIf : List UInt8 := [105, 102]
def wThen : List UInt8 := [116, 104, 101, 110]
def wElse : List UInt8 := [101, 108, 115, 101]

def prUnary (rec : Nat → PSt → Ex × PSt) (st : PSt) : Ex × PSt :=
  if st.isB [45] then (.mk 5 0 [(rec 5 st.next).1], (rec 5 st.next).2)
  else if st.isB [33] then (.mk 6 0 [(rec 5 st.next).1], (rec 5 st.next).2)
  else rec 6 st
/-- What stands behind the word 'if'. -/
def prIf (E : Int) (rec : Nat → PSt → Ex × PSt) (st : PSt) : Ex × PSt :=
  (.mk 18 0 [(rec 0 st).1, (rec 0 ((rec 0 st).2.must E wThen)).1, (rec 0 ((rec 0 ((rec 0 st).2.must E wThen)).2.must E wElse)).1], (rec 0 ((rec 0 ((rec 0 st).2.must E wThen)).2.must E wElse)).2)
def prOne (E : Int) (rec : Nat → PSt → Ex × PSt) (st : PSt) : Ex × PSt :=
  if st.bad.isSome then (Ex.zero, st)
  else if st.numB then (.mk 1 st.numN [], st.next)
  else if st.isB wKey then (.mk 2 0 [], st.next)
  else if st.isB wVal then (.mk 3 0 [], st.next)
  else if st.isB wAcc then (.mk 4 0 [], st.next)
  else if st.isB [40] then ((rec 0 st.next).1, (rec 0 st.next).2.must E [41])
  else if st.isB wIf then prIf E rec st.next
  else (Ex.zero, st.fails E)
def prStep (E : Int) (rec : Nat → PSt → Ex × PSt) (lv : Nat) (st : PSt) : Ex × PSt :=
  if lv = 5 then prUnary rec st else if lv = 6 then prOne E rec st
  else rowL (rec (lv + 1)) (lvSigns lv) (lvMost lv) (rec (lv + 1) st).1 (rec (lv + 1) st).2

/-- The rules: the levels 0 to 4 (or, and, cmp, sum, term), 5 (unary), 6 (one). -/
def pr (E : Int) : Nat → Nat → PSt → Ex × PSt
  | 0, _, st => (Ex.zero, st)
  | f + 1, lv, st => prStep E (pr E f) lv st

theorem rowL_len {one : PSt → Ex × PSt} (h : ∀ st, (one st).2.l.length ≤ st.l.length) (sg : List (List UInt8 × Int)) : ∀ c x st, (rowL one sg c x st).2.l.length ≤ st.l.length
  | 0, x, st => Nat.le_refl _
  | c + 1, x, st => by
    simp only [rowL]
    split
    · exact Nat.le_refl _
    · split
      · exact Nat.le_refl _
      · exact Nat.le_trans (rowL_len h sg c _ _) (Nat.le_trans (h _) (PSt.next_le st))

theorem prStep_len (E : Int) {rec : Nat → PSt → Ex × PSt} (h : ∀ lv st, (rec lv st).2.l.length ≤ st.l.length) (lv : Nat) (st : PSt) : (prStep E rec lv st).2.l.length ≤ st.l.length := by
  have hn := PSt.next_le st
  unfold prStep
  split
  · unfold prUnary
    repeat' split
    all_goals first | exact h _ _ | exact Nat.le_trans (h _ _) hn
  · split
    · unfold prOne
      repeat' split
      all_goals first
        | exact Nat.le_refl _
        | exact hn
        | exact Nat.le_trans (PSt.must_le _ _ _) (Nat.le_trans (h _ _) hn)
        | (show (st.fails E).l.length ≤ _; rw [PSt.fails_l]; exact Nat.le_refl _)
        | (unfold prIf; exact Nat.le_trans (h _ _) (Nat.le_trans (PSt.must_le _ _ _) (Nat.le_trans (h _ _) (Nat.le_trans (PSt.must_le _ _ _) (Nat.le_trans (h _ _) hn)))))
    · exact Nat.le_trans (rowL_len (fun st => h _ st) _ _ _ _) (h _ _)

theorem pr_len (E : Int) : ∀ f lv st, (pr E f lv st).2.l.length ≤ st.l.length
  | 0, _, _ => Nat.le_refl _
  | f + 1, lv, st => prStep_len E (pr_len E f) lv st

theorem rowL_congr {one one' : PSt → Ex × PSt} (hl : ∀ st, (one st).2.l.length ≤ st.l.length) (sg : List (List UInt8 × Int)) (n : Nat) (h : ∀ st, st.l.length < n → one st = one' st) :
    ∀ c x st, st.l.length ≤ n → rowL one sg c x st = rowL one' sg c x st
  | 0, _, _, _ => rfl
  | c + 1, x, st, hs => by
    simp only [rowL]
    cases hb : st.bad.isSome
    · cases hg : signOf st sg with
      | none => rfl
      | some o =>
        have h1 := signOf_lt hg
        have h2 := hl st.next
        simp only [Bool.false_eq_true, if_false]
        rw [← h st.next (by omega)]
        exact rowL_congr hl sg n h c _ _ (by omega)
    · rfl

theorem rowL_count {one : PSt → Ex × PSt} (hl : ∀ st, (one st).2.l.length ≤ st.l.length) (sg : List (List UInt8 × Int)) :
    ∀ c c' x st, st.l.length < c → st.l.length < c' → rowL one sg c x st = rowL one sg c' x st
  | 0, _, _, _, h, _ => by omega
  | c + 1, 0, _, _, _, h => by omega
  | c + 1, c' + 1, x, st, h, h' => by
    simp only [rowL]
    cases hb : st.bad.isSome
    · cases hg : signOf st sg with
      | none => rfl
      | some o =>
        have h1 := signOf_lt hg
        have h2 := hl st.next
        simp only [Bool.false_eq_true, if_false]
        exact rowL_count hl sg c c' _ _ (by omega) (by omega)
    · rfl

theorem prStep_congr (E : Int) {rec rec' : Nat → PSt → Ex × PSt} (hl : ∀ lv st, (rec lv st).2.l.length ≤ st.l.length) (lv : Nat) (hlv : lv ≤ 6) (st : PSt)
    (h : ∀ lv' st', lv' ≤ 6 → st'.need lv' < st.need lv → rec lv' st' = rec' lv' st') : prStep E rec lv st = prStep E rec' lv st := by
  unfold PSt.need at h
  unfold prStep
  by_cases h5 : lv = 5
  · subst h5
    simp only [if_true]
    unfold prUnary
    by_cases h1 : st.isB [45] = true
    · have := PSt.next_lt h1
      rw [if_pos h1, if_pos h1, h 5 st.next (by omega) (by omega)]
    · rw [if_neg h1, if_neg h1]
      by_cases h2 : st.isB [33] = true
      · have := PSt.next_lt h2
        rw [if_pos h2, if_pos h2, h 5 st.next (by omega) (by omega)]
      · rw [if_neg h2, if_neg h2, h 6 st (by omega) (by omega)]
  · rw [if_neg h5, if_neg h5]
    by_cases h6 : lv = 6
    · subst h6
      simp only [if_true]
      unfold prOne
      by_cases h1 : st.isB [40] = true
      · have := PSt.next_lt h1
        rw [h 0 st.next (by omega) (by omega)]
        by_cases h2 : st.isB wIf = true
        · simp only [if_pos h1]
        · simp only [if_pos h1]
      · simp only [if_neg h1]
        by_cases h2 : st.isB wIf = true
        · have hn := PSt.next_lt h2
          simp only [if_pos h2]
          unfold prIf
          have q1 := h 0 st.next (by omega) (by omega)
          have l1 := hl 0 st.next
          have m1 := PSt.must_le E (rec 0 st.next).2 wThen
          have q2 := h 0 ((rec 0 st.next).2.must E wThen) (by omega) (by omega)
          have l2 := hl 0 ((rec 0 st.next).2.must E wThen)
          have m2 := PSt.must_le E (rec 0 ((rec 0 st.next).2.must E wThen)).2 wElse
          have q3 := h 0 ((rec 0 ((rec 0 st.next).2.must E wThen)).2.must E wElse) (by omega) (by omega)
          rw [q3, q2, q1]
        · simp only [if_neg h2]
    · rw [if_neg h6, if_neg h6, h (lv + 1) st (by omega) (by omega)]
      refine rowL_congr (fun st => ?_) _ st.l.length (fun st' hs' => h _ _ (by omega) (by omega)) _ _ _ ?_
      · exact hl _ _
      · rw [← h (lv + 1) st (by omega) (by omega)]; exact hl _ _

theorem pr_fuel (E : Int) : ∀ f g lv st, lv ≤ 6 → st.need lv ≤ f → st.need lv ≤ g → pr E f lv st = pr E g lv st
  | 0, _, lv, st, hlv, h, _ => by unfold PSt.need at h; omega
  | f + 1, 0, lv, st, hlv, _, h => by unfold PSt.need at h; omega
  | f + 1, g + 1, lv, st, hlv, h, h' => prStep_congr E (pr_len E f) lv hlv st fun lv' st' hlv' hn => pr_fuel E f g lv' st' hlv' (by omega) (by omega)

/-- The rules, with as much fuel as they need. -/
def prF (E : Int) (lv : Nat) (st : PSt) : Ex × PSt := pr E (st.need lv) lv st
theorem prF_len (E : Int) (lv : Nat) (st : PSt) : (prF E lv st).2.l.length ≤ st.l.length := pr_len E _ lv st
theorem prF_of (E : Int) (f lv : Nat) (st : PSt) (hlv : lv ≤ 6) (h : st.need lv ≤ f) : pr E f lv st = prF E lv st := pr_fuel E _ _ lv st hlv h (Nat.le_refl _)
theorem prF_eq (E : Int) (lv : Nat) (st : PSt) (hlv : lv ≤ 6) : prF E lv st = prStep E (prF E) lv st := by
  obtain ⟨f, hf⟩ : ∃ f, st.need lv = f + 1 := ⟨st.need lv - 1, by unfold PSt.need; omega⟩
  unfold prF
  rw [hf]
  exact prStep_congr E (pr_len E f) lv hlv st fun lv' st' hlv' hn => by rw [prF_of E f lv' st' hlv' (by omega)]; rfl

theorem prF_row (E : Int) (lv : Nat) (st : PSt) (hlv : lv < 5) : prF E lv st = rowL (prF E (lv + 1)) (lvSigns lv) (lvMost lv) (prF E (lv + 1) st).1 (prF E (lv + 1) st).2 := by
  rw [prF_eq E lv st (by omega)]
  unfold prStep
  rw [if_neg (by omega), if_neg (by omega)]
theorem prF_unary (E : Int) (st : PSt) : prF E 5 st = prUnary (prF E) st := by rw [prF_eq E 5 st (by omega)]; rfl
theorem prF_one (E : Int) (st : PSt) : prF E 6 st = prOne E (prF E) st := by rw [prF_eq E 6 st (by omega)]; rfl

/-- How deep an expression is, k levels being left. -/
def deepN : Nat → Ex → Nat
  | 0, _ => 1
  | k + 1, x => x.args.foldl (fun n a => max n (deepN k a)) 0 + 1
theorem deepN_le : ∀ (k : Nat) (x : Ex), deepN k x ≤ k + 1
  | 0, _ => by simp [deepN]
  | k + 1, x => by
    simp only [deepN]
    have : ∀ (l : List Ex) (n : Nat), n ≤ k + 1 → l.foldl (fun n a => max n (deepN k a)) n ≤ k + 1 := by
      intro l
      induction l with
      | nil => intro n h; simpa using h
      | cons a l ih => intro n h; exact ih _ (by have := deepN_le k a; show max n (deepN k a) ≤ k + 1; omega)
    have := this x.args 0 (by omega)
    omega

/-- What is told of the last state: an expression, a place, an error. -/
def parseEnd (E : Int) (x : Ex) (st : PSt) : Ex × Int × Int :=
  match (if st.l = [] then st else st.fails E).bad with
  | some a => (Ex.zero, a, 80)
  | none => if 16 < deepN 16 x then (Ex.zero, 0, 81) else (x, 0, 0)

/-- What expr.Parse tells: an expression, a place, an error. -/
def parse (s : ByteArray) : Ex × Int × Int :=
  if (toks s).2.2 ≠ 0 then (Ex.zero, (toks s).2.1, (toks s).2.2)
  else parseEnd (runes s).length (prF (runes s).length 0 ⟨(toks s).1, none⟩).1 (prF (runes s).length 0 ⟨(toks s).1, none⟩).2

end Go.Proofs.YtjbchkgkapccnaaGreatDoor

namespace Go.Proofs.YtjbchkgkapccnaaGreatDoor
open Go.RowKit
set_option linter.unusedVariables false

/-- The next token; the text ends at E. -/
def PSt.tok (E : Int) (st : PSt) : Tok := match st.l with | [] => ⟨0, { data := #[] }, 0, E⟩ | t :: _ => t
theorem PSt.isB_tok (E : Int) (st : PSt) (s : List UInt8) : st.isB s = (st.bad.isNone && (decide ((st.tok E).kind ≠ 0) && (decide ((st.tok E).kind ≠ 2) && decide ((st.tok E).text.toList = s)))) := by
  obtain ⟨l, b⟩ := st
  cases l with
  | nil => cases b <;> simp [PSt.isB, PSt.tok]
  | cons t l => rfl
theorem PSt.here_tok (E : Int) (st : PSt) : st.here E = (st.tok E).at_ := by
  obtain ⟨l, b⟩ := st
  cases l <;> rfl

/-- The reader in block br is in the state st; the text ends at E. -/
structure RdAt (w : World) (br : Nat) (E : Int) (st : PSt) : Prop where
  ex : ∃ v a, Blk w br 126 #[v, .int .i64 E, .bool st.bad.isSome, .int .i64 a] ∧ (∀ b, st.bad = some b → a = b) ∧ Sl w br 4 v st.l.length (toksCells st.l)

theorem RdAt.keep {w w' : World} {br : Nat} {E : Int} {st : PSt} (h : RdAt w br E st) (hb : Below w.heap.size w w') : RdAt w' br E st := by
  obtain ⟨v, a, h1, h2, h3⟩ := h.ex
  exact ⟨v, a, h1.below hb h1.lt, h2, h3.below (hb.mono (Nat.le_of_lt h1.lt))⟩
theorem RdAt.fr {S : Nat → Prop} {w w' : World} {br : Nat} {E : Int} {st : PSt} (h : RdAt w br E st) (hf : Fr S w w') (hs : ∀ k, k ≤ br → ¬ S k) : RdAt w' br E st := by
  obtain ⟨v, a, h1, h2, h3⟩ := h.ex
  exact ⟨v, a, h1.fr hf (hs br (Nat.le_refl _)), h2, h3.below (hf.below (Nat.le_of_lt h1.lt) (fun k hk => hs k (Nat.le_of_lt hk)))⟩
theorem RdAt.lt {w : World} {br : Nat} {E : Int} {st : PSt} (h : RdAt w br E st) : br < w.heap.size := by
  obtain ⟨v, a, h1, h2, h3⟩ := h.ex
  exact h1.lt

set_option maxHeartbeats 400000 in
theorem next_c (br : Nat) (E : Int) (st : PSt) (w : World) (h : RdAt w br E st) :
    Calls Tryz.prog 124 #[.pointer (some ⟨br, 0, none⟩)] w fun e w' => e = .returned (st.tok E).agg ∧ Below w.heap.size w w' := by
  obtain ⟨v, a, hb, ha, hs⟩ := h.ex
  have c0 := hb.cell 0
  have c1 := hb.cell 1
  have hlt := hb.lt
  obtain ⟨l, bad⟩ := st
  cases l with
  | nil =>
    obtain ⟨_, a1, cap, rfl, _, _, _⟩ := hs
    go_enter Tryz.func124, Tryz.ntmps124
    go_wp2_with fail
    have h0 := Blk.new w #[.int .u8 0, .string { data := #[] }, .int .i64 0, .int .i64 E] 158
    refine bodyPost_ret (v := Tok.agg ⟨0, { data := #[] }, 0, E⟩) (results_cell_row rfl _ _ w.heap.size 158 _ (0, 0) _ rfl h0 Tryz.underlying158 rfl ?_) rfl ⟨rfl, ?_⟩
    · as_aux_lemma => kernel_rfl
    · exact (Below.refl _ _).alloc (Nat.le_refl _) _
  | cons t l =>
    simp only [List.length_cons] at hs
    obtain ⟨b, off, cap, rfl, _, d0, d1, d2, d3⟩ := hs.tok 0 (by omega)
    simp only [Nat.zero_mul, Nat.add_zero, List.getElem_cons_zero] at d0 d1 d2 d3
    have hlb := World.block_lt_of_cell? _ _ d0
    have hl0 : 0 < l.length + 1 := by omega
    have hl1 : (((l.length + 1 : Nat) : Int) == 0) = false := by rw [beq_eq_false_iff_ne]; omega
    generalize l.length + 1 = n at *
    go_enter Tryz.func124, Tryz.ntmps124
    go_wp2_with fail
    have h0 := Blk.new w #[.int .u8 t.kind, .string t.text, .int .i64 t.n, .int .i64 t.at_] 158
    refine bodyPost_ret (v := Tok.agg t) (results_cell_row rfl _ _ w.heap.size 158 _ (0, 0) _ rfl h0 Tryz.underlying158 rfl ?_) rfl ⟨rfl, ?_⟩
    · as_aux_lemma => kernel_rfl
    · exact (Below.refl _ _).alloc (Nat.le_refl _) _

theorem isB_cases (E : Int) (st : PSt) (s : ByteArray) : (st.bad.isSome = true ∧ st.isB s.toList = false) ∨ (st.bad.isSome = false ∧ ((st.tok E).kind == 0) = true ∧ st.isB s.toList = false) ∨
    (st.bad.isSome = false ∧ ((st.tok E).kind == 0) = false ∧ ((st.tok E).kind == 2) = true ∧ st.isB s.toList = false) ∨
    (st.bad.isSome = false ∧ ((st.tok E).kind == 0) = false ∧ ((st.tok E).kind == 2) = false ∧ ((st.tok E).text.toList == s.toList) = false ∧ st.isB s.toList = false) ∨
    (st.bad.isSome = false ∧ ((st.tok E).kind == 0) = false ∧ ((st.tok E).kind == 2) = false ∧ (st.tok E).text = s ∧ st.isB s.toList = true) := by
  rw [PSt.isB_tok E st s.toList]
  cases hb : st.bad.isSome
  · have hb' : st.bad.isNone = true := by cases h : st.bad <;> simp_all
    by_cases h0 : (st.tok E).kind = 0
    · exact .inr (.inl ⟨rfl, by simpa using h0, by simp [h0]⟩)
    · by_cases h2 : (st.tok E).kind = 2
      · exact .inr (.inr (.inl ⟨rfl, by simpa using h0, by simpa using h2, by simp [h2]⟩))
      · by_cases hs : (st.tok E).text = s
        · exact .inr (.inr (.inr (.inr ⟨rfl, by simpa using h0, by simpa using h2, hs, by simp [hb', h0, h2, hs]⟩)))
        · have hs' : ¬ (st.tok E).text.toList = s.toList := fun h => hs ((bytes_inj _ _).1 h)
          exact .inr (.inr (.inr (.inl ⟨rfl, by simpa using h0, by simpa using h2, by simpa using hs', by simp [hs']⟩)))
  · have hb' : st.bad.isNone = false := by cases h : st.bad <;> simp_all
    exact .inl ⟨rfl, by simp [hb']⟩

set_option maxHeartbeats 1000000 in
theorem is_false (br : Nat) (E : Int) (st : PSt) (s : ByteArray) (w : World) (h : RdAt w br E st) (hf : st.isB s.toList = false) :
    Calls Tryz.prog 153 #[.pointer (some ⟨br, 0, none⟩), .string s] w fun e w' => e = .returned (.bool false) ∧ Below w.heap.size w w' := by
  have hc := isB_cases E st s
  obtain ⟨v, a, hb, ha, hs⟩ := h.ex
  have H := Lib.hid h
  clear hs ha
  have hlt := hb.lt
  generalize htk : st.tok E = tk at *
  obtain ⟨k, tx, n, ta⟩ := tk
  simp only at hc
  have HTK := Lib.hid htk
  have HF := Lib.hid hf
  generalize st.bad.isSome = bad at *
  clear htk hf h
  have hB := (Below.refl w.heap.size w)
  rcases hc with ⟨h1, _⟩ | ⟨h1, h2, _⟩ | ⟨h1, h2, h3, _⟩ | ⟨h1, h2, h3, h4, _⟩ | ⟨h1, h2, h3, h4, h5⟩
  · subst h1
    go_enter Tryz.func153, Tryz.ntmps153
    go_wp2_with (go_at_call 124; refine (next_c br E st _ H.out).mono ?_; rintro e w1 ⟨rfl, hb1⟩; rw [HTK.out]; dsimp only [Tok.agg]; have hb2 := hb.below hb1 hlt; have c2 := hb2.cell 2; have hlt2 := hb2.lt)
    go_ret
    exact ⟨rfl, hb1.alloc hb1.size _⟩
  · subst h1
    go_enter Tryz.func153, Tryz.ntmps153
    go_wp2_with (go_at_call 124; refine (next_c br E st _ H.out).mono ?_; rintro e w1 ⟨rfl, hb1⟩; rw [HTK.out]; dsimp only [Tok.agg]; have hb2 := hb.below hb1 hlt; have c2 := hb2.cell 2; have hlt2 := hb2.lt)
    go_ret
    exact ⟨rfl, hb1.alloc hb1.size _⟩
  · subst h1
    go_enter Tryz.func153, Tryz.ntmps153
    go_wp2_with (go_at_call 124; refine (next_c br E st _ H.out).mono ?_; rintro e w1 ⟨rfl, hb1⟩; rw [HTK.out]; dsimp only [Tok.agg]; have hb2 := hb.below hb1 hlt; have c2 := hb2.cell 2; have hlt2 := hb2.lt)
    go_ret
    exact ⟨rfl, hb1.alloc hb1.size _⟩
  · subst h1
    go_enter Tryz.func153, Tryz.ntmps153
    go_wp2_with (go_at_call 124; refine (next_c br E st _ H.out).mono ?_; rintro e w1 ⟨rfl, hb1⟩; rw [HTK.out]; dsimp only [Tok.agg]; have hb2 := hb.below hb1 hlt; have c2 := hb2.cell 2; have hlt2 := hb2.lt)
    go_ret
    exact ⟨rfl, hb1.alloc hb1.size _⟩
  · exact absurd h5 (by rw [HF.out]; decide)

theorem RdAt.next {w : World} {br : Nat} {E : Int} {t : Tok} {l : List Tok} {bad : Option Int} {b off cap : Nat} {a : Int} (hb : Blk w br 126 #[.slice (some ⟨b, off, none⟩) (l.length + 1) cap, .int .i64 E, .bool bad.isSome, .int .i64 a])
    (ha : ∀ b, bad = some b → a = b) (hs : Sl w br 4 (.slice (some ⟨b, off, none⟩) (l.length + 1) cap) (l.length + 1) (toksCells (t :: l))) {A : Option Addr} (hA : 0 < l.length → A = some ⟨b, off + 4, none⟩) :
    RdAt (w.setCell ⟨br, 0, none⟩ (.slice A l.length (cap - 1))) br E ⟨l, bad⟩ := by
  have hlt := hb.lt
  refine ⟨_, a, hb.set 0 _, ha, (hs.rest hA).below ?_⟩
  exact (Below.refl _ _).setCell (p := ⟨br, 0, none⟩) (Nat.le_refl _) _

set_option maxHeartbeats 1000000 in
theorem is_true (br : Nat) (E : Int) (st : PSt) (s : ByteArray) (w : World) (h : RdAt w br E st) (hf : st.isB s.toList = true) :
    Calls Tryz.prog 153 #[.pointer (some ⟨br, 0, none⟩), .string s] w fun e w' => e = .returned (.bool true) ∧ RdAt w' br E st.next ∧ Fr (· = br) w w' := by
  have hc := isB_cases E st s
  obtain ⟨v, a, hb, ha, hs⟩ := h.ex
  have H := Lib.hid h
  have hlt := hb.lt
  obtain ⟨l, bad⟩ := st
  cases l with
  | nil => cases bad <;> simp [PSt.isB] at hf
  | cons t l =>
    simp only [List.length_cons] at hs
    obtain ⟨b, off, cap, rfl, _, d0, _, _, _⟩ := hs.tok 0 (by omega)
    have hlb := World.block_lt_of_cell? _ _ d0
    have hcap : l.length + 1 ≤ cap ∧ cap ≤ maxLen := by
      obtain ⟨_, a', cap', hv, h2, h3, _⟩ := id hs
      simp only [Value.slice.injEq] at hv
      omega
    obtain ⟨hc1, hc2⟩ := hcap
    unfold maxLen at hc2
    have htk : PSt.tok E ⟨t :: l, bad⟩ = t := rfl
    have hnx : PSt.next ⟨t :: l, bad⟩ = ⟨l, bad⟩ := rfl
    rw [hnx]
    rw [htk] at hc
    have HS := Lib.hid hs
    have HA := Lib.hid ha
    have HTK := Lib.hid htk
    obtain ⟨k, tx, n, ta⟩ := t
    simp only at hc hb
    rcases hc with ⟨_, h6⟩ | ⟨_, _, h6⟩ | ⟨_, _, _, h6⟩ | ⟨_, _, _, _, h6⟩ | ⟨h1, h2, h3, h4, _⟩
    · rw [h6] at hf; exact absurd hf (by decide)
    · rw [h6] at hf; exact absurd hf (by decide)
    · rw [h6] at hf; exact absurd hf (by decide)
    · rw [h6] at hf; exact absurd hf (by decide)
    · subst h4
      clear d0 hs ha htk hnx h hf
      obtain rfl : bad = none := by cases bad <;> simp_all
      have hq : (tx.toList == tx.toList) = true := by simp
      simp only [Option.isSome_none] at hb
      generalize hm : l.length = m at *
      have HM := Lib.hid hm
      clear hm
      by_cases h1c : cap = 1
      all_goals
        go_enter Tryz.func153, Tryz.ntmps153
        go_wp2_with (go_at_call 124; refine (next_c br E _ _ H.out).mono ?_; rintro e w1 ⟨rfl, hb1⟩; rw [HTK.out]; dsimp only [Tok.agg]; have hb2 := hb.below hb1 hlt; have c2 := hb2.cell 2; have c0 := hb2.cell 0; have f0 := hb2.free 0; have hlt2 := hb2.lt)
        go_ret
        refine ⟨rfl, ?_, ?_⟩
        rotate_left
        · exact ((Fr.of_new (S := fun x => x = br) hb1).setCell (p := ⟨br, 0, none⟩) (.inl rfl) _).alloc _
      · obtain rfl := HM.out
        have hN := RdAt.next (A := some ⟨b, off, none⟩) (bad := none) hb2 HA.out (HS.out.below (hb1.mono (Nat.le_of_lt hlt))) (fun h => by omega)
        rw [h1c] at hN
        exact hN.keep ((Below.refl _ _).alloc (Nat.le_refl _) _)
      · obtain rfl := HM.out
        have hN := RdAt.next (A := some ⟨b, off + 4, none⟩) (bad := none) hb2 HA.out (HS.out.below (hb1.mono (Nat.le_of_lt hlt))) (fun _ => rfl)
        exact hN.keep ((Below.refl _ _).alloc (Nat.le_refl _) _)

/-- What 'is' leaves. -/
def PSt.took (st : PSt) (s : List UInt8) : PSt := if st.isB s then st.next else st
theorem is_c (br : Nat) (E : Int) (st : PSt) (s : ByteArray) (w : World) (h : RdAt w br E st) :
    Calls Tryz.prog 153 #[.pointer (some ⟨br, 0, none⟩), .string s] w fun e w' => e = .returned (.bool (st.isB s.toList)) ∧ RdAt w' br E (st.took s.toList) ∧ Fr (· = br) w w' := by
  unfold PSt.took
  cases hb : st.isB s.toList
  · exact (is_false br E st s w h hb).mono fun e w' ⟨he, hw⟩ => ⟨he, h.keep hw, Fr.of_new hw⟩
  · exact is_true br E st s w h hb

set_option maxHeartbeats 1000000 in
theorem fails_c (br : Nat) (E : Int) (st : PSt) (w : World) (h : RdAt w br E st) :
    Calls Tryz.prog 82 #[.pointer (some ⟨br, 0, none⟩)] w fun e w' => e = .returned (.agg #[.int .u8 0, .int .i64 0, .slice none 0 0]) ∧ RdAt w' br E (st.fails E) ∧ Fr (· = br) w w' := by
  obtain ⟨v, a, hb, ha, hs⟩ := h.ex
  have H := Lib.hid h
  have hlt := hb.lt
  have HS := Lib.hid hs
  have hbN := (hb.alloc (.cells #[.int .u8 0, .int .i64 0, .slice none 0 0] 47))
  have c2 := hb.cell 2
  obtain ⟨l, bad⟩ := st
  cases bad with
  | none =>
    have hE : Hid (PSt.fails E ⟨l, none⟩ = ⟨l, some (PSt.here E ⟨l, none⟩)⟩) := rfl
    have HN := Lib.hid (PSt.here_tok E ⟨l, none⟩)
    generalize htk : PSt.tok E ⟨l, none⟩ = tk at *
    obtain ⟨k, tx, n, ta⟩ := tk
    have HTK := Lib.hid htk
    clear htk hs h
    simp only [Option.isSome_none] at hb hbN c2
    have hfd : ∀ w : World, (Instr.field 158 (.agg #[.int .u8 k, .string tx, .int .i64 n, .int .i64 ta]) 3).run Tryz.prog w = .ok (.int .i64 ta) w := fun _ => by kernel_rfl
    go_enter Tryz.func82, Tryz.ntmps82
    go_upto_region 3 with (go_at_call 124; refine (next_c br E _ _ (H.out.keep ((Below.refl _ _).alloc (Nat.le_refl _) _))).mono ?_; rintro e w1 ⟨rfl, hb1⟩; rw [HTK.out]; dsimp only [Tok.agg]; have hb2 := hbN.below hb1 (by simp; omega); have d2 := hb2.cell 2; have d3 := hb2.cell 3; have f2 := hb2.free 2; have f3 := hb2.free 3; have hlt2 := hb2.lt; have h0 := (Blk.new w #[.int .u8 0, .int .i64 0, .slice none 0 0] 47).below hb1 (by simp))
    have hR : RdAt ((w1.setCell ⟨br, 2, none⟩ (.bool true)).setCell ⟨br, 3, none⟩ (.int .i64 ta)) br E (PSt.fails E ⟨l, none⟩) := by
      refine ⟨v, ta, (hb2.set 2 _).set 3 _, ?_, ?_⟩
      · rw [hE.out, HN.out]; intro b h; cases h; rfl
      · rw [hE.out]
        exact HS.out.below (((((Below.refl br w).alloc (Nat.le_of_lt hlt) _).trans (hb1.mono (by simp; omega))).setCell (Nat.le_refl _) _).setCell (Nat.le_refl _) _)
    have hF : Fr (· = br) w ((w1.setCell ⟨br, 2, none⟩ (.bool true)).setCell ⟨br, 3, none⟩ (.int .i64 ta)) := by
      refine ((((Fr.refl (fun x => x = br) w).alloc _).trans (Fr.of_new hb1)).setCell (p := ⟨br, 2, none⟩) (.inl rfl) _).setCell (p := ⟨br, 3, none⟩) (.inl rfl) _
    have h1 : Blk ((w1.setCell ⟨br, 2, none⟩ (.bool true)).setCell ⟨br, 3, none⟩ (.int .i64 ta)) w.heap.size 47 #[.int .u8 0, .int .i64 0, .slice none 0 0] :=
      (h0.other (p := ⟨br, 2, none⟩) (by simp; omega) _).other (p := ⟨br, 3, none⟩) (by simp; omega) _
    generalize World.setCell (World.setCell w1 _ _) _ _ = W at *
    have g0 := h1.cell 0
    have g1 := h1.cell 1
    have g2 := h1.cell 2
    have k0 := h1.free 0
    have k1 := h1.free 1
    have k2 := h1.free 2
    clear d2 d3 f2 f3 hb2 hb1 c2 hbN hb h0
    go_wp2_with fail
    refine bodyPost_ret (v := .agg #[.int .u8 0, .int .i64 0, .slice none 0 0]) (results_cell_row rfl _ _ w.heap.size 47 _ (0, 0) _ rfl (((h1.set 0 _).set 1 _).set 2 _) Tryz.underlying47 rfl ?_) rfl ⟨rfl, ?_, ?_⟩
    · as_aux_lemma => kernel_rfl
    · exact hR.fr ((((Fr.refl (fun x => x = w.heap.size) W).setCell (p := ⟨w.heap.size, 0, none⟩) (.inl rfl) _).setCell (p := ⟨w.heap.size, 1, none⟩) (.inl rfl) _).setCell (p := ⟨w.heap.size, 2, none⟩) (.inl rfl) _) (fun k hk => by omega)
    · exact ((hF.setCell (p := ⟨w.heap.size, 0, none⟩) (.inr (Nat.le_refl _)) _).setCell (p := ⟨w.heap.size, 1, none⟩) (.inr (Nat.le_refl _)) _).setCell (p := ⟨w.heap.size, 2, none⟩) (.inr (Nat.le_refl _)) _
  | some b =>
    have hE : PSt.fails E ⟨l, some b⟩ = ⟨l, some b⟩ := rfl
    rw [hE]
    clear hs h
    simp only [Option.isSome_some] at hb hbN c2
    go_enter Tryz.func82, Tryz.ntmps82
    go_wp2_with fail
    have h0 := Blk.new w #[.int .u8 0, .int .i64 0, .slice none 0 0] 47
    refine bodyPost_ret (v := .agg #[.int .u8 0, .int .i64 0, .slice none 0 0]) (results_cell_row rfl _ _ w.heap.size 47 _ (0, 0) _ rfl h0 Tryz.underlying47 rfl ?_) rfl ⟨rfl, H.out.keep ((Below.refl _ _).alloc (Nat.le_refl _) _), (Fr.refl _ _).alloc _⟩
    as_aux_lemma => kernel_rfl

set_option maxHeartbeats 400000 in
theorem must_c (br : Nat) (E : Int) (st : PSt) (s : ByteArray) (w : World) (h : RdAt w br E st) :
    Calls Tryz.prog 179 #[.pointer (some ⟨br, 0, none⟩), .string s] w fun e w' => e = .returned (.tuple #[]) ∧ RdAt w' br E (st.must E s.toList) ∧ Fr (· = br) w w' := by
  unfold PSt.must
  cases hb : st.isB s.toList
  all_goals
    have H := Lib.hid h
    have HB := Lib.hid hb
    clear h hb
    go_enter Tryz.func179, Tryz.ntmps179
    go_wp2_with (first
      | (go_at_call 153; refine (is_c br E st s _ H.out).mono ?_; rintro e w1 ⟨rfl, h1, hf1⟩; rw [PSt.took] at h1; rw [HB.out] at h1 ⊢; have H1 := Lib.hid h1; clear h1)
      | (go_at_call 82; refine (fails_c br E st _ H1.out).mono ?_; rintro e w2 ⟨rfl, h2, hf2⟩))
    go_end0
  · exact ⟨rfl, h2, hf1.trans hf2⟩
  · exact ⟨rfl, H1.out, hf1⟩

end Go.Proofs.YtjbchkgkapccnaaGreatDoor

namespace Go.Proofs.YtjbchkgkapccnaaGreatDoor
open Go.RowKit
set_option linter.unusedVariables false

/-- The list of expressions l lies where the slice sv says, in blocks of P. -/
inductive ArgsIn (w : World) (P : Nat → Prop) : List Ex → Value → Prop
  | nil (a : Option Addr) (cap : Nat) (hm : cap ≤ maxLen) : ArgsIn w P [] (.slice a 0 cap)
  | cons (l : List Ex) (b off cap : Nat) (sv : Nat → Value) (hl : 0 < l.length) (hb : P b) (hcap : l.length ≤ cap) (hm : cap ≤ maxLen)
      (h0 : ∀ j (h : j < l.length), w.cell? ⟨b, off + j * 3, none⟩ = some (.int .u8 (l[j]'h).op)) (h1 : ∀ j (h : j < l.length), w.cell? ⟨b, off + j * 3 + 1, none⟩ = some (.int .i64 (l[j]'h).n))
      (h2 : ∀ j (h : j < l.length), w.cell? ⟨b, off + j * 3 + 2, none⟩ = some (sv j)) (hs : ∀ j (h : j < l.length), ArgsIn w P (l[j]'h).args (sv j)) :
      ArgsIn w P l (.slice (some ⟨b, off, none⟩) l.length cap)

namespace ArgsIn
variable {w w' : World} {P : Nat → Prop} {l : List Ex} {v : Value}
theorem keep (h : ArgsIn w P l v) {Q : Nat → Prop} (hPQ : ∀ b, P b → Q b) (hk : ∀ b, P b → w'.heap[b]? = w.heap[b]?) : ArgsIn w' Q l v := by
  have hc : ∀ b off, P b → w'.cell? ⟨b, off, none⟩ = w.cell? ⟨b, off, none⟩ := fun b off hb => World.cell?_of_block (hk b hb)
  induction h with
  | nil a cap hm => exact .nil a cap hm
  | cons l b off cap sv hl hb hcap hm h0 h1 h2 _ ih =>
    exact .cons l b off cap sv hl (hPQ b hb) hcap hm (fun j h => (hc _ _ hb).trans (h0 j h)) (fun j h => (hc _ _ hb).trans (h1 j h)) (fun j h => (hc _ _ hb).trans (h2 j h)) ih
theorem mono (h : ArgsIn w P l v) {Q : Nat → Prop} (hPQ : ∀ b, P b → Q b) : ArgsIn w Q l v := h.keep hPQ fun _ _ => rfl
theorem toAt (h : ArgsIn w P l v) {B : Nat} (hP : ∀ b, P b → b < B) : ArgsAt w B l v := by
  induction h with
  | nil a cap hm => exact .nil a cap hm
  | cons l b off cap sv hl hb hcap hm h0 h1 h2 _ ih => exact .cons l b off cap sv hl (hP b hb) hcap hm h0 h1 h2 ih
/-- Over a step that may turn blocks of S alone. -/
theorem fr (h : ArgsIn w P l v) {S Q : Nat → Prop} (hf : Fr S w w') (hP : ∀ b, P b → b < w.heap.size ∧ ¬ S b) (hPQ : ∀ b, P b → Q b) : ArgsIn w' Q l v :=
  h.keep hPQ fun b hb => hf.block b (hP b hb).1 (hP b hb).2
theorem slice (h : ArgsIn w P l v) : ∃ a n cap, v = .slice a n cap := by
  cases h with
  | nil a cap hm => exact ⟨_, _, _, rfl⟩
  | cons l b off cap sv hl hb hcap hm h0 h1 h2 hs => exact ⟨_, _, _, rfl⟩
/-- Out of a block that is known whole. -/
theorem of_block {b : Nat} {t : TypeId} {cs : Array Value} (hb : Blk w b t cs) (hP : P b) (l : List Ex) (sv : Nat → Value)
    (hc : ∀ j (h : j < l.length), cs[j * 3]? = some (.int .u8 (l[j]'h).op) ∧ cs[j * 3 + 1]? = some (.int .i64 (l[j]'h).n) ∧ cs[j * 3 + 2]? = some (sv j)) (hs : ∀ j (h : j < l.length), ArgsIn w P (l[j]'h).args (sv j)) (hl : l.length ≤ maxLen) :
    ArgsIn w P l (.slice (some ⟨b, 0, none⟩) l.length l.length) := by
  by_cases h0 : l.length = 0
  · have : l = [] := List.length_eq_zero_iff.1 h0
    subst this
    exact .nil _ _ (Nat.zero_le _)
  · exact .cons l b 0 l.length sv (by omega) hP (Nat.le_refl _) hl (fun j h => by rw [Nat.zero_add, hb.cell]; exact (hc j h).1) (fun j h => by rw [Nat.zero_add, hb.cell]; exact (hc j h).2.1) (fun j h => by rw [Nat.zero_add, hb.cell]; exact (hc j h).2.2) hs
theorem one {b : Nat} {t : TypeId} {x : Ex} {sv : Value} (hb : Blk w b t #[.int .u8 x.op, .int .i64 x.n, sv]) (hP : P b) (hs : ArgsIn w P x.args sv) : ArgsIn w P [x] (.slice (some ⟨b, 0, none⟩) 1 1) :=
  of_block hb hP [x] (fun _ => sv) (fun j hj => by match j, hj with | 0, _ => exact ⟨rfl, rfl, rfl⟩) (fun j hj => by match j, hj with | 0, _ => exact hs) (show (1 : Nat) ≤ maxLen by decide)
theorem two {b : Nat} {t : TypeId} {x y : Ex} {sv su : Value} (hb : Blk w b t #[.int .u8 x.op, .int .i64 x.n, sv, .int .u8 y.op, .int .i64 y.n, su]) (hP : P b) (hs : ArgsIn w P x.args sv) (hu : ArgsIn w P y.args su) : ArgsIn w P [x, y] (.slice (some ⟨b, 0, none⟩) 2 2) :=
  of_block hb hP [x, y] (fun j => if j = 0 then sv else su) (fun j hj => by match j, hj with | 0, _ => exact ⟨rfl, rfl, rfl⟩ | 1, _ => exact ⟨rfl, rfl, rfl⟩) (fun j hj => by match j, hj with | 0, _ => exact hs | 1, _ => exact hu) (show (2 : Nat) ≤ maxLen by decide)
theorem three {b : Nat} {t : TypeId} {x y z : Ex} {sv su st : Value} (hb : Blk w b t #[.int .u8 x.op, .int .i64 x.n, sv, .int .u8 y.op, .int .i64 y.n, su, .int .u8 z.op, .int .i64 z.n, st]) (hP : P b) (hs : ArgsIn w P x.args sv) (hu : ArgsIn w P y.args su)
    (ht : ArgsIn w P z.args st) : ArgsIn w P [x, y, z] (.slice (some ⟨b, 0, none⟩) 3 3) :=
  of_block hb hP [x, y, z] (fun j => if j = 0 then sv else if j = 1 then su else st) (fun j hj => by match j, hj with | 0, _ => exact ⟨rfl, rfl, rfl⟩ | 1, _ => exact ⟨rfl, rfl, rfl⟩ | 2, _ => exact ⟨rfl, rfl, rfl⟩)
    (fun j hj => by match j, hj with | 0, _ => exact hs | 1, _ => exact hu | 2, _ => exact ht) (show (3 : Nat) ≤ maxLen by decide)
end ArgsIn

/-- What a rule's call leaves: an expression of new blocks, the reader's state. -/
def PrPost (w : World) (R : World → PSt → Prop) (br : Nat) (p : Ex × PSt) (e : Ending) (w' : World) : Prop :=
  ∃ sv, e = .returned (.agg #[.int .u8 p.1.op, .int .i64 p.1.n, sv]) ∧ ArgsIn w' (fun b => w.heap.size ≤ b ∧ b < w'.heap.size) p.1.args sv ∧ R w' p.2 ∧ Fr (fun k => k = br) w w'

/-- The result is laid into its block s0. -/
theorem prPost_mk {w w3 : World} {R : World → PSt → Prop} {br s0 : Nat} {st : PSt} {x : Ex} {sv : Value} {cs : Array Value} (hR : ∀ w1 w2, R w1 st → Fr (fun k => k = s0) w1 w2 → R w2 st) (h0 : Blk w3 s0 47 cs) (hcs : cs.size = 3)
    (hs0 : w.heap.size ≤ s0) (ha : ArgsIn w3 (fun b => w.heap.size ≤ b ∧ b ≠ s0 ∧ b < w3.heap.size) x.args sv) (hr : R w3 st) (hf : Fr (fun k => k = br) w w3) :
    PrPost w R br (x, st) (.returned (.agg #[.int .u8 x.op, .int .i64 x.n, sv])) (((w3.setCell ⟨s0, 0, none⟩ (.int .u8 x.op)).setCell ⟨s0, 1, none⟩ (.int .i64 x.n)).setCell ⟨s0, 2, none⟩ sv) ∧
      Blk (((w3.setCell ⟨s0, 0, none⟩ (.int .u8 x.op)).setCell ⟨s0, 1, none⟩ (.int .i64 x.n)).setCell ⟨s0, 2, none⟩ sv) s0 47 #[.int .u8 x.op, .int .i64 x.n, sv] := by
  have hF : Fr (fun k => k = s0) w3 (((w3.setCell ⟨s0, 0, none⟩ (.int .u8 x.op)).setCell ⟨s0, 1, none⟩ (.int .i64 x.n)).setCell ⟨s0, 2, none⟩ sv) :=
    (((Fr.refl (fun k => k = s0) w3).setCell (p := ⟨s0, 0, none⟩) (.inl rfl) _).setCell (p := ⟨s0, 1, none⟩) (.inl rfl) _).setCell (p := ⟨s0, 2, none⟩) (.inl rfl) _
  have hB := ((h0.set 0 (.int .u8 x.op)).set 1 (.int .i64 x.n)).set 2 sv
  obtain ⟨cs⟩ := cs
  match cs, hcs with
  | [c0, c1, c2], _ =>
    refine ⟨⟨sv, rfl, ?_, hR _ _ hr hF, ?_⟩, hB⟩
    · exact ha.fr hF (fun b hb => ⟨hb.2.2, hb.2.1⟩) (fun b hb => ⟨hb.1, Nat.lt_of_lt_of_le hb.2.2 hF.size⟩)
    · exact ((hf.setCell (p := ⟨s0, 0, none⟩) (.inr hs0) _).setCell (p := ⟨s0, 1, none⟩) (.inr hs0) _).setCell (p := ⟨s0, 2, none⟩) (.inr hs0) _

set_option maxHeartbeats 400000 in
theorem rowis_c (br bt : Nat) (E : Int) (st : PSt) (s : ByteArray) (o : Int) (w : World) (h : RdAt w br E st) (hb : Blk w bt 124 #[.pointer (some ⟨br, 0, none⟩)]) :
    Calls Tryz.prog 152 #[.agg #[.string s, .int .u8 o], .pointer (some ⟨bt, 0, none⟩)] w fun e w' => e = .returned (.bool (st.isB s.toList)) ∧ RdAt w' br E (st.took s.toList) ∧ Fr (fun k => k = br) w w' := by
  have H := Lib.hid h
  have hlt := hb.lt
  have c0 := hb.cell 0
  clear h
  go_enter Tryz.func152, Tryz.ntmps152
  go_wp2_with (go_at_call 153; refine (is_c br E st s _ (H.out.keep ((Below.refl _ _).alloc (Nat.le_refl _) _))).mono ?_; rintro e w1 ⟨rfl, h1, hf1⟩)
  go_ret
  exact ⟨rfl, h1, ((Fr.refl (fun k => k = br) w).alloc _).trans hf1⟩

def sgCells (sg : List (ByteArray × Int)) : List Value := sg.flatMap fun p => [.string p.1, .int .u8 p.2]
theorem sgCells_length (sg : List (ByteArray × Int)) : (sgCells sg).length = sg.length * 2 := by
  induction sg with
  | nil => rfl
  | cons p l ih => simp only [sgCells, List.flatMap_cons, List.length_append, List.length_cons] at *; rw [ih]; simp; omega
theorem sgCells_at (l : List (ByteArray × Int)) (k : Nat) (h : k < l.length) : (sgCells l)[k * 2]? = some (.string (l[k]'h).1) ∧ (sgCells l)[k * 2 + 1]? = some (.int .u8 (l[k]'h).2) := by
  induction l generalizing k with
  | nil => simp at h
  | cons t l ih =>
    cases k with
    | zero => simp [sgCells]
    | succ k =>
      have hk : k < l.length := by simpa using h
      have e : sgCells (t :: l) = .string t.1 :: .int .u8 t.2 :: sgCells l := rfl
      rw [e, show (k + 1) * 2 = k * 2 + 1 + 1 by omega]
      simp only [List.getElem?_cons_succ, List.getElem_cons_succ]
      exact ih k hk
/-- The signs lie in block bs. -/
def SgAt (w : World) (bs : Nat) (sg : List (ByteArray × Int)) : Prop := Blk w bs 165 (sgCells sg).toArray ∧ sg.length ≤ 1000
theorem SgAt.at_ {w : World} {bs : Nat} {sg : List (ByteArray × Int)} (h : SgAt w bs sg) (k : Nat) (hk : k < sg.length) :
    w.cell? ⟨bs, k * 2, none⟩ = some (.string (sg[k]'hk).1) ∧ w.cell? ⟨bs, k * 2 + 1, none⟩ = some (.int .u8 (sg[k]'hk).2) := by
  obtain ⟨e0, e1⟩ := sgCells_at sg k hk
  rw [h.1.cell, h.1.cell]
  simpa using ⟨e0, e1⟩

set_option maxHeartbeats 1000000 in
theorem idx_none (br bt bs : Nat) (E : Int) (st : PSt) (sg : List (ByteArray × Int)) (w : World) (h : RdAt w br E st) (hb : Blk w bt 124 #[.pointer (some ⟨br, 0, none⟩)]) (hs : SgAt w bs sg) (hbt : bt ≠ br) (hbs : bs ≠ br)
    (hno : ∀ i (hi : i < sg.length), st.isB (sg[i]'hi).1.toList = false) :
    Calls Tryz.prog 151 #[.slice (some ⟨bs, 0, none⟩) sg.length sg.length, .func (.func 152) #[] #[.pointer (some ⟨bt, 0, none⟩)]] w
      fun e w' => e = .returned (.int .i64 (-1)) ∧ RdAt w' br E st ∧ Fr (fun k => k = br) w w' := by
  have H := Lib.hid h
  have HB := Lib.hid hb
  have HS := Lib.hid hs
  have HNO := Lib.hid hno
  have hn := hs.2
  have hlb := hb.lt
  have hls := hs.1.lt
  have hlr := h.lt
  obtain ⟨N, hN⟩ : ∃ N, sg.length = N := ⟨_, rfl⟩
  rw [hN] at hn ⊢
  have HN := Lib.hid hN
  clear h hb hs hno hN
  go_enter Tryz.func151, Tryz.ntmps151
  go_wp2
  go_loopw [8] (fun q wr => ∃ k : Nat, q = .int .i64 k ∧ k ≤ N ∧ RdAt wr br E st ∧ Fr (fun k => k = br) w wr) (fun q _ => N - (intOf q).toNat)
  case atStart => exact ⟨0, rfl, Nat.zero_le _, H.out, Fr.refl _ _⟩
  case round =>
    obtain ⟨k, rfl, hk, hr, hf⟩ := hrel
    have HR := Lib.hid hr
    clear hr
    by_cases hlt : k < N
    · have hlk : k < sg.length := by rw [HN.out]; exact hlt
      have hsr : SgAt wr bs sg := ⟨HS.out.1.fr hf hbs, HS.out.2⟩
      obtain ⟨c0, c1⟩ := hsr.at_ k hlk
      have hno := HNO.out k hlk
      generalize sg[k] = p at *
      obtain ⟨s, o⟩ := p
      have HNK := Lib.hid hno
      have HBR := Lib.hid (HB.out.fr hf hbt)
      clear hno hsr
      have hsz := hf.size
      go_wp2_with (go_at_call 152; refine (rowis_c br bt E st s o _ HR.out HBR.out).mono ?_; rintro e w1 ⟨rfl, h1, hf1⟩; rw [PSt.took] at h1; rw [HNK.out] at h1 ⊢; have H1 := Lib.hid h1; clear h1)
      go_roundw
      case rel => exact ⟨k + 1, by go_num, by omega, H1.out, hf.trans hf1⟩
      case measure => simp [intOf]; omega
    · go_wp2
      go_ret
      exact ⟨rfl, HR.out, hf⟩

set_option maxHeartbeats 1000000 in
theorem idx_some (br bt bs : Nat) (E : Int) (st : PSt) (sg : List (ByteArray × Int)) (w : World) (h : RdAt w br E st) (hb : Blk w bt 124 #[.pointer (some ⟨br, 0, none⟩)]) (hs : SgAt w bs sg) (hbt : bt ≠ br) (hbs : bs ≠ br)
    (j : Nat) (hj : j < sg.length) (hno : ∀ i (hi : i < j), st.isB (sg[i]'(by omega)).1.toList = false) (hyes : st.isB (sg[j]'hj).1.toList = true) :
    Calls Tryz.prog 151 #[.slice (some ⟨bs, 0, none⟩) sg.length sg.length, .func (.func 152) #[] #[.pointer (some ⟨bt, 0, none⟩)]] w
      fun e w' => e = .returned (.int .i64 j) ∧ RdAt w' br E st.next ∧ Fr (fun k => k = br) w w' := by
  have H := Lib.hid h
  have HB := Lib.hid hb
  have HS := Lib.hid hs
  have HNO := Lib.hid hno
  have HYES := Lib.hid hyes
  have hn := hs.2
  have hlb := hb.lt
  have hls := hs.1.lt
  have hlr := h.lt
  obtain ⟨N, hN⟩ : ∃ N, sg.length = N := ⟨_, rfl⟩
  rw [hN] at hn ⊢
  have hj2 : j < N := by omega
  have HJ := Lib.hid hj
  have HN := Lib.hid hN
  clear h hb hs hno hN hyes
  go_enter Tryz.func151, Tryz.ntmps151
  go_wp2
  go_loopw [8] (fun q wr => ∃ k : Nat, q = .int .i64 k ∧ k ≤ j ∧ RdAt wr br E st ∧ Fr (fun k => k = br) w wr) (fun q _ => N - (intOf q).toNat)
  case atStart => exact ⟨0, rfl, Nat.zero_le _, H.out, Fr.refl _ _⟩
  case round =>
    obtain ⟨k, rfl, hk, hr, hf⟩ := hrel
    have HR := Lib.hid hr
    clear hr
    have hlk : k < sg.length := by rw [HN.out]; omega
    have hltN : k < N := by omega
    have hsr : SgAt wr bs sg := ⟨HS.out.1.fr hf hbs, HS.out.2⟩
    obtain ⟨c0, c1⟩ := hsr.at_ k hlk
    have HBR := Lib.hid (HB.out.fr hf hbt)
    have hsz := hf.size
    by_cases hlt : k < j
    · have hno := HNO.out k hlt
      generalize sg[k] = p at *
      obtain ⟨s, o⟩ := p
      have HNK := Lib.hid hno
      clear hno hsr
      go_wp2_with (go_at_call 152; refine (rowis_c br bt E st s o _ HR.out HBR.out).mono ?_; rintro e w1 ⟨rfl, h1, hf1⟩; rw [PSt.took] at h1; rw [HNK.out] at h1 ⊢; have H1 := Lib.hid h1; clear h1)
      go_roundw
      case rel => exact ⟨k + 1, by go_num, by omega, H1.out, hf.trans hf1⟩
      case measure => simp [intOf]; omega
    · obtain rfl : k = j := by omega
      have hno := HYES.out
      generalize sg[k] = p at *
      obtain ⟨s, o⟩ := p
      have HNK := Lib.hid hno
      clear hno hsr
      go_wp2_with (go_at_call 152; refine (rowis_c br bt E st s o _ HR.out HBR.out).mono ?_; rintro e w1 ⟨rfl, h1, hf1⟩; rw [PSt.took] at h1; rw [HNK.out] at h1 ⊢; have H1 := Lib.hid h1; clear h1)
      go_ret
      exact ⟨rfl, H1.out, hf.trans hf1⟩

end Go.Proofs.YtjbchkgkapccnaaGreatDoor

namespace Go.Proofs.YtjbchkgkapccnaaGreatDoor
open Go.RowKit
set_option linter.unusedVariables false
attribute [local go_sem ↓] Go.wp_at_zero Go.wp_at_succ

def sgOf : Nat → List (ByteArray × Int)
  | 0 => [({ data := #[124] }, 17)]
  | 1 => [({ data := #[38] }, 16)]
  | 2 => [({ data := #[60] }, 12), ({ data := #[60, 61] }, 13), ({ data := #[61] }, 14), ({ data := #[33, 61] }, 15)]
  | 3 => [({ data := #[43] }, 7), ({ data := #[45] }, 8)]
  | _ => [({ data := #[42] }, 9), ({ data := #[47] }, 10), ({ data := #[37] }, 11)]
def sgList (sg : List (ByteArray × Int)) : List (List UInt8 × Int) := sg.map fun p => (p.1.toList, p.2)
theorem sg_0 : sgList (sgOf 0) = lvSigns 0 := by kernel_rfl
theorem sg_1 : sgList (sgOf 1) = lvSigns 1 := by kernel_rfl
theorem sg_2 : sgList (sgOf 2) = lvSigns 2 := by kernel_rfl
theorem sg_3 : sgList (sgOf 3) = lvSigns 3 := by kernel_rfl
theorem sg_4 : sgList (sgOf 4) = lvSigns 4 := by kernel_rfl

theorem signOf_none {st : PSt} : ∀ {sg : List (ByteArray × Int)}, signOf st (sgList sg) = none → ∀ i (hi : i < sg.length), st.isB (sg[i]'hi).1.toList = false
  | [], _, i, hi => by simp at hi
  | (s, o) :: r, h, i, hi => by
    simp only [sgList, List.map_cons, signOf] at h
    split at h
    · simp at h
    · cases i with
      | zero => simpa using (by assumption : ¬ st.isB s.toList = true)
      | succ i => exact signOf_none (sg := r) h i (by simpa using hi)
theorem signOf_some {st : PSt} {o : Int} : ∀ {sg : List (ByteArray × Int)}, signOf st (sgList sg) = some o → ∃ j, ∃ hj : j < sg.length, (sg[j]'hj).2 = o ∧ (∀ i (hi : i < j), st.isB (sg[i]'(by omega)).1.toList = false) ∧ st.isB (sg[j]'hj).1.toList = true
  | [], h => by simp [sgList, signOf] at h
  | (s, o') :: r, h => by
    simp only [sgList, List.map_cons, signOf] at h
    split at h
    · exact ⟨0, by simp, by simpa using h, fun i hi => by omega, by assumption⟩
    · obtain ⟨j, hj, h1, h2, h3⟩ := signOf_some (sg := r) h
      refine ⟨j + 1, by simp; omega, h1, fun i hi => ?_, h3⟩
      cases i with
      | zero => simpa using (by assumption : ¬ st.isB s.toList = true)
      | succ i => exact h2 i (by omega)

/-- What lies there at each round's head. -/
structure RowR (w wr : World) (br bx : Nat) (x : Ex) (sv : Value) : Prop where
  box : Blk wr w.heap.size 124 #[.pointer (some ⟨br, 0, none⟩)]
  res : Blk wr (w.heap.size + 1) 47 #[.int .u8 0, .int .i64 0, .slice none 0 0]
  cx : Blk wr bx 47 #[.int .u8 x.op, .int .i64 x.n, sv]
  args : ArgsIn wr (fun b => w.heap.size + 2 ≤ b ∧ b ≠ bx ∧ b < wr.heap.size) x.args sv
  low : w.heap.size + 2 ≤ bx
  fr : Fr (fun k => k = br) w wr

theorem RowR.step {w wr w2 : World} {br bx : Nat} {x : Ex} {sv : Value} (h : RowR w wr br bx x sv) (hbr : br < w.heap.size) (hf : Fr (fun k => k = br) wr w2) : RowR w w2 br bx x sv := by
  have hlow := h.low
  exact ⟨h.box.fr hf (by omega), h.res.fr hf (by omega), h.cx.fr hf (by omega), h.args.fr hf (fun b hb => ⟨hb.2.2, by omega⟩) (fun b hb => ⟨hb.1, hb.2.1, Nat.lt_of_lt_of_le hb.2.2 hf.size⟩), hlow, h.fr.trans hf⟩

/-- The round's end: a new row of two, and x is of it. -/
theorem RowR.put {w w9 : World} {br bx : Nat} {x y : Ex} {sv su : Value} {o : Int} (h : RowR w w9 br bx x sv) (hy : ArgsIn w9 (fun b => w.heap.size + 2 ≤ b ∧ b ≠ bx ∧ b < w9.heap.size) y.args su) (hbr : br < w.heap.size) {E : Int} {st : PSt} (hr : RdAt w9 br E st) :
    RowR w ((((w9.setCell ⟨bx, 0, none⟩ (.int .u8 o)).setCell ⟨bx, 1, none⟩ (.int .i64 0)).setCell ⟨bx, 2, none⟩ (.slice (some ⟨w9.heap.size, 0, none⟩) 2 2)).alloc (.cells #[.int .u8 x.op, .int .i64 x.n, sv, .int .u8 y.op, .int .i64 y.n, su] 47))
      br bx (.mk o 0 [x, y]) (.slice (some ⟨w9.heap.size, 0, none⟩) 2 2) ∧
    RdAt ((((w9.setCell ⟨bx, 0, none⟩ (.int .u8 o)).setCell ⟨bx, 1, none⟩ (.int .i64 0)).setCell ⟨bx, 2, none⟩ (.slice (some ⟨w9.heap.size, 0, none⟩) 2 2)).alloc (.cells #[.int .u8 x.op, .int .i64 x.n, sv, .int .u8 y.op, .int .i64 y.n, su] 47)) br E st := by
  have hlow := h.low
  have hlt := h.cx.lt
  have hF : Fr (fun k => k = bx) w9 ((((w9.setCell ⟨bx, 0, none⟩ (.int .u8 o)).setCell ⟨bx, 1, none⟩ (.int .i64 0)).setCell ⟨bx, 2, none⟩ (.slice (some ⟨w9.heap.size, 0, none⟩) 2 2)).alloc (.cells #[.int .u8 x.op, .int .i64 x.n, sv, .int .u8 y.op, .int .i64 y.n, su] 47)) :=
    ((((Fr.refl (fun k => k = bx) w9).setCell (p := ⟨bx, 0, none⟩) (.inl rfl) _).setCell (p := ⟨bx, 1, none⟩) (.inl rfl) _).setCell (p := ⟨bx, 2, none⟩) (.inl rfl) _).alloc _
  have hN := Blk.new_at (((w9.setCell ⟨bx, 0, none⟩ (.int .u8 o)).setCell ⟨bx, 1, none⟩ (.int .i64 0)).setCell ⟨bx, 2, none⟩ (.slice (some ⟨w9.heap.size, 0, none⟩) 2 2)) #[.int .u8 x.op, .int .i64 x.n, sv, .int .u8 y.op, .int .i64 y.n, su] 47 (k := w9.heap.size) (by simp [World.setCell])
  have hC := ((((h.cx.set 0 (.int .u8 o)).set 1 (.int .i64 0)).set 2 (.slice (some ⟨w9.heap.size, 0, none⟩) 2 2)).alloc (.cells #[.int .u8 x.op, .int .i64 x.n, sv, .int .u8 y.op, .int .i64 y.n, su] 47))
  have hfr := (((h.fr.setCell (p := ⟨bx, 0, none⟩) (.inr (by show _ ≤ bx; omega)) (.int .u8 o)).setCell (p := ⟨bx, 1, none⟩) (.inr (by show _ ≤ bx; omega)) (.int .i64 0)).setCell (p := ⟨bx, 2, none⟩) (.inr (by show _ ≤ bx; omega)) (.slice (some ⟨w9.heap.size, 0, none⟩) 2 2)).alloc (.cells #[.int .u8 x.op, .int .i64 x.n, sv, .int .u8 y.op, .int .i64 y.n, su] 47)
  have hsz : w9.heap.size + 1 = ((((w9.setCell ⟨bx, 0, none⟩ (.int .u8 o)).setCell ⟨bx, 1, none⟩ (.int .i64 0)).setCell ⟨bx, 2, none⟩ (.slice (some ⟨w9.heap.size, 0, none⟩) 2 2)).alloc (.cells #[.int .u8 x.op, .int .i64 x.n, sv, .int .u8 y.op, .int .i64 y.n, su] 47)).heap.size := by simp [World.setCell]
  generalize World.alloc _ _ = W at *
  refine ⟨⟨h.box.fr hF (by omega), h.res.fr hF (by omega), hC, ?_, hlow, hfr⟩, hr.fr hF (fun k hk => by omega)⟩
  refine ArgsIn.two hN ⟨by omega, by omega, by omega⟩ (h.args.fr hF (fun b hb => ⟨hb.2.2, hb.2.1⟩) (fun b hb => ⟨hb.1, hb.2.1, by omega⟩)) (hy.fr hF (fun b hb => ⟨hb.2.2, hb.2.1⟩) (fun b hb => ⟨hb.1, hb.2.1, by omega⟩))

/-- How row ends: x goes into the result's block. -/
theorem RowR.done {w wr : World} {br bx : Nat} {x : Ex} {sv : Value} {E : Int} {st : PSt} (h : RowR w wr br bx x sv) (hr : RdAt wr br E st) (hbr : br < w.heap.size) :
    PrPost w (fun w st => RdAt w br E st) br (x, st) (.returned (.agg #[.int .u8 x.op, .int .i64 x.n, sv])) (((wr.setCell ⟨w.heap.size + 1, 0, none⟩ (.int .u8 x.op)).setCell ⟨w.heap.size + 1, 1, none⟩ (.int .i64 x.n)).setCell ⟨w.heap.size + 1, 2, none⟩ sv) ∧
      Blk (((wr.setCell ⟨w.heap.size + 1, 0, none⟩ (.int .u8 x.op)).setCell ⟨w.heap.size + 1, 1, none⟩ (.int .i64 x.n)).setCell ⟨w.heap.size + 1, 2, none⟩ sv) (w.heap.size + 1) 47 #[.int .u8 x.op, .int .i64 x.n, sv] :=
  prPost_mk (fun w1 w2 h1 hf => h1.fr hf (fun k hk => by omega)) h.res rfl (by omega) (h.args.mono fun b hb => ⟨by omega, by omega, hb.2.2⟩) hr h.fr

theorem rowL_stop (one : PSt → Ex × PSt) (sg : List (List UInt8 × Int)) (c : Nat) (x : Ex) (st : PSt) (h : c = 0 ∨ st.bad.isSome = true ∨ signOf st sg = none) : rowL one sg c x st = (x, st) := by
  cases c with
  | zero => rfl
  | succ c =>
    simp only [rowL]
    rcases h with h | h | h
    · omega
    · rw [if_pos h]
    · split
      · rfl
      · rw [h]
theorem rowL_go (one : PSt → Ex × PSt) (sg : List (List UInt8 × Int)) (c : Nat) (x : Ex) (st : PSt) (o : Int) (h : st.bad.isSome = false) (ho : signOf st sg = some o) : rowL one sg (c + 1) x st = rowL one sg c (.mk o 0 [x, (one st.next).1]) (one st.next).2 := by
  simp only [rowL]
  rw [h, ho]
  rfl

set_option maxRecDepth 100000 in
set_option maxHeartbeats 2000000 in
theorem row_c (g : FuncId) (eg : ∀ args w, (callFunc g args).run Tryz.prog w = .ok (.enter g args) w) (f : PSt → Ex × PSt) (sg : List (ByteArray × Int)) (most : Nat) (hm : most ≤ 400) (br bs : Nat) (E : Int) (st : PSt) (w : World) (h : RdAt w br E st) (hs : SgAt w bs sg) (hbs : bs ≠ br) (hlen : Hid (∀ st, (f st).2.l.length ≤ st.l.length))
    (hone : Hid (∀ st' w', st'.l.length ≤ st.l.length → RdAt w' br E st' → Calls Tryz.prog g #[.pointer (some ⟨br, 0, none⟩)] w' (PrPost w' (fun w st => RdAt w br E st) br (f st')))) :
    Calls Tryz.prog 122 #[.pointer (some ⟨br, 0, none⟩), .func (.func g) #[.pointer (some ⟨br, 0, none⟩)] #[], .int .i64 most, .slice (some ⟨bs, 0, none⟩) sg.length sg.length] w
      (PrPost w (fun w st => RdAt w br E st) br (rowL f (sgList sg) most (f st).1 (f st).2)) := by
  have H := Lib.hid h
  have HS := Lib.hid hs
  have hlr := h.lt
  have hls := hs.1.lt
  have hN2 := hs.2
  obtain ⟨N, hN⟩ : ∃ N, sg.length = N := ⟨_, rfl⟩
  rw [hN] at hN2 ⊢
  have HN := Lib.hid hN
  have hlN := hlen.out st
  generalize hx0 : (f st).1 = x0 at *
  generalize hst0 : (f st).2 = st0 at *
  have HX0 := Lib.hid hx0
  have HST0 := Lib.hid hst0
  generalize htg : rowL f (sgList sg) most x0 st0 = target at *
  have HTG := Lib.hid htg
  have hbox := (Blk.new w #[.pointer (some ⟨br, 0, none⟩)] 124).alloc (.cells #[.int .u8 0, .int .i64 0, .slice none 0 0] 47)
  have hres := Blk.new_at (w.alloc (.cells #[.pointer (some ⟨br, 0, none⟩)] 124)) #[.int .u8 0, .int .i64 0, .slice none 0 0] 47 (k := w.heap.size + 1) (by simp)
  have hF0 := ((Fr.refl (fun k => k = br) w).alloc (.cells #[.pointer (some ⟨br, 0, none⟩)] 124)).alloc (.cells #[.int .u8 0, .int .i64 0, .slice none 0 0] 47)
  have hR0 := Lib.hid (h.keep (((Below.refl _ w).alloc (Nat.le_refl _) (.cells #[.pointer (some ⟨br, 0, none⟩)] 124)).alloc (by simp) (.cells #[.int .u8 0, .int .i64 0, .slice none 0 0] 47)))
  have hsz0 : ((w.alloc (.cells #[.pointer (some ⟨br, 0, none⟩)] 124)).alloc (.cells #[.int .u8 0, .int .i64 0, .slice none 0 0] 47)).heap.size = w.heap.size + 2 := by simp
  have HSZ0 := Lib.hid hsz0
  clear h hs hN hx0 hst0 htg hsz0
  go_enter Tryz.func122, Tryz.ntmps122
  go_wp2_with fail
  refine (hone.out st _ (Nat.le_refl _) hR0.out).mono ?_
  rintro e w1 ⟨_, rfl, ha1, hr1, hf1⟩
  obtain ⟨aa, an, ac, rfl⟩ := ha1.slice
  rw [HX0.out] at ha1 ⊢
  rw [HST0.out] at hr1
  have hlb := hf1.size
  rw [HSZ0.out] at hlb
  have hbr1 : br < w1.heap.size := by omega
  go_upto_region 2 with fail
  have hRR : RowR w (w1.alloc (.cells #[.int .u8 x0.op, .int .i64 x0.n, .slice aa an ac] 47)) br w1.heap.size x0 (.slice aa an ac) := by
    have hfA := hf1.alloc (.cells #[.int .u8 x0.op, .int .i64 x0.n, .slice aa an ac] 47)
    refine ⟨hbox.fr hfA (by omega), hres.fr hfA (by omega), Blk.new _ _ _, ?_, hlb, hF0.trans hfA⟩
    refine ha1.fr ((Fr.refl (fun k => k = br) w1).alloc _) (fun b hb => ⟨hb.2, ?_⟩) (fun b hb => ⟨?_, ?_, ?_⟩)
    · have := hb.1; rw [HSZ0.out] at this; omega
    · have := hb.1; rw [HSZ0.out] at this; omega
    · omega
    · simp; omega
  have hrd := hr1.keep ((Below.refl _ w1).alloc (Nat.le_refl _) (.cells #[.int .u8 x0.op, .int .i64 x0.n, .slice aa an ac] 47))
  generalize hbx : w1.heap.size = bx at *
  generalize w1.alloc _ = W at *
  clear ha1 hr1 hf1 hR0 HSZ0 hF0 hres hbox hbx
  have HRR := Lib.hid hRR
  have HRD := Lib.hid hrd
  clear hRR hrd
  go_wp2_with fail
  go_loopw [10] (fun q wr => ∃ (k : Nat) (x : Ex) (s : PSt) (sv : Value), q = .int .i64 k ∧ k ≤ most ∧ RowR w wr br bx x sv ∧ RdAt wr br E s ∧ s.l.length ≤ st.l.length ∧ rowL f (sgList sg) (most - k) x s = target) (fun q _ => most - (intOf q).toNat)
  case atStart => exact ⟨0, x0, st0, _, rfl, Nat.zero_le _, HRR.out, HRD.out, hlN, HTG.out⟩
  case round =>
    obtain ⟨k, x, s, _, rfl, hk, hR, hD, hsl, hgo⟩ := hrel
    obtain ⟨va, vn, vc, rfl⟩ := hR.args.slice
    have HGO := Lib.hid hgo
    have HR := Lib.hid hR
    have HD := Lib.hid hD
    clear hgo
    have b0 := hR.box.cell 0
    have x0 := hR.cx.cell 0
    have x1 := hR.cx.cell 1
    have x2 := hR.cx.cell 2
    have r0 := hR.res.cell 0
    have r1 := hR.res.cell 1
    have r2 := hR.res.cell 2
    have q0 := hR.res.free 0
    have q1 := hR.res.free 1
    have q2 := hR.res.free 2
    obtain ⟨v, a, hb, _, _⟩ := hD.ex
    have d2 := hb.cell 2
    have hlow := hR.low
    by_cases hkm : k < most
    · cases hbad : s.bad.isSome
      · rw [hbad] at d2
        cases hso : signOf s (sgList sg) with
        | none =>
          have hst := rowL_stop f (sgList sg) (most - k) x s (.inr (.inr hso))
          have HE := Lib.hid (hst.symm.trans HGO.out)
          have HSO := Lib.hid hso
          clear hR hD hb hst hso
          go_wp2_with (go_at_call 151; have hni := idx_none br w.heap.size bs E s sg wr HD.out HR.out.box ⟨HS.out.1.fr HR.out.fr hbs, HS.out.2⟩ (by omega) hbs (signOf_none HSO.out); rw [HN.out] at hni; refine hni.mono ?_; clear hni; rintro e w2 ⟨rfl, h2, hf2⟩; have hR2 := HR.out.step hlr hf2; have y0 := hR2.cx.cell 0; have y1 := hR2.cx.cell 1; have y2 := hR2.cx.cell 2; have t0 := hR2.res.cell 0; have t1 := hR2.res.cell 1; have t2 := hR2.res.cell 2; have z0 := hR2.res.free 0; have z1 := hR2.res.free 1; have z2 := hR2.res.free 2)
          obtain ⟨p1, p2⟩ := hR2.done h2 hlr
          rw [← HE.out]
          refine bodyPost_ret (v := .agg #[.int .u8 x.op, .int .i64 x.n, .slice va vn vc]) (results_cell_row rfl _ _ (w.heap.size + 1) 47 _ (0, 0) _ rfl p2 Tryz.underlying47 rfl ?_) rfl p1
          as_aux_lemma => kernel_rfl
        | some o =>
          obtain ⟨j, hj, ho, hno, hyes⟩ := signOf_some hso
          obtain ⟨m, hm1⟩ : ∃ m, most - k = m + 1 := ⟨most - k - 1, by omega⟩
          have hgo2 := HGO.out
          rw [hm1, rowL_go f (sgList sg) m x s o hbad hso] at hgo2
          have HGO2 := Lib.hid hgo2
          have HM1 := Lib.hid hm1
          have HIDX := Lib.hid (fun (h : RdAt wr br E s) (h1 : SgAt wr bs sg) => idx_some br w.heap.size bs E s sg wr h HR.out.box h1 (by omega) hbs j hj hno hyes)
          have HNX := Lib.hid (signOf_lt hso)
          have hjN : j < N := by have := HN.out; omega
          have HSG := Lib.hid (HS.out.at_ j hj)
          generalize sg[j] = p at *
          obtain ⟨ps, po⟩ := p
          simp only at ho
          subst ho
          clear hR hD hb hso hgo2 hm1 hno hyes
          go_upto_region 8 with (go_at_call 151; have hni := HIDX.out HD.out ⟨HS.out.1.fr HR.out.fr hbs, HS.out.2⟩; rw [HN.out] at hni; refine hni.mono ?_; clear hni; rintro e w2 ⟨rfl, h2, hf2⟩)
          have hR2 := HR.out.step hlr hf2
          have hfW := HR.out.fr.trans hf2
          have hsg := (World.cell?_of_block (hfW.block bs hls hbs)).trans HSG.out.2
          have y0 := hR2.cx.cell 0
          have y1 := hR2.cx.cell 1
          have y2 := hR2.cx.cell 2
          have HR2 := Lib.hid hR2
          have HD2 := Lib.hid h2
          have hjI : (j : Int) < (N : Int) := by omega
          have hls2 : bs < w2.heap.size := Nat.lt_of_lt_of_le hls hfW.size
          have hbx2 := hR2.cx.lt
          have hle2 : s.next.l.length ≤ st.l.length := by have := HNX.out; omega
          clear hR2 h2 hf2 hfW b0 x0 x1 x2 r0 r1 r2 q0 q1 q2 d2 HIDX HSG
          go_region_with (refine (hone.out s.next _ hle2 (HD2.out.keep (Below.refl _ w2).drew)).mono ?_; rintro e w9 ⟨_, rfl, ha9, hr9, hf9⟩; obtain ⟨a9, n9, c9, rfl⟩ := ha9.slice; have hR9 := (RowR.step HR2.out hlr ((Fr.refl (fun k => k = br) w2).drew)).step hlr hf9; have z0 := hR9.cx.cell 0; have z1 := hR9.cx.cell 1; have z2 := hR9.cx.cell 2; have k0 := hR9.cx.free 0; have k1 := hR9.cx.free 1; have k2 := hR9.cx.free 2; have hbx9 := hR9.cx.lt; have hls9 : bs < w9.heap.size := Nat.lt_of_lt_of_le hls2 (by simpa using hf9.size); have hsg9 := (World.cell?_of_block (hf9.block bs (by simpa using hls2) hbs)).trans hsg)
          all_goals
            go_wp2_with fail
            go_roundw
            case rel =>
              have hs9 := hf9.size
              have hlow := HR2.out.low
              have hs2 := HR2.out.fr.size
              have hq := RowR.put (o := po) hR9 (ha9.mono fun b hb => ⟨by have := hb.1; simp at this; omega, by have := hb.1; simp at this; omega, hb.2⟩) hlr hr9
              exact ⟨k + 1, _, _, _, by go_num, by omega, hq.1, hq.2, Nat.le_trans (hlen.out _) hle2, by rw [show most - (k + 1) = m by have := HM1.out; omega]; exact HGO2.out⟩
            case measure => simp [intOf]; omega
      · rw [hbad] at d2
        have hst := rowL_stop f (sgList sg) (most - k) x s (.inr (.inl hbad))
        have HE := Lib.hid (hst.symm.trans HGO.out)
        clear hR hD hb hst
        go_wp2_with fail
        obtain ⟨p1, p2⟩ := HR.out.done HD.out hlr
        rw [← HE.out]
        refine bodyPost_ret (v := .agg #[.int .u8 x.op, .int .i64 x.n, .slice va vn vc]) (results_cell_row rfl _ _ (w.heap.size + 1) 47 _ (0, 0) _ rfl p2 Tryz.underlying47 rfl ?_) rfl p1
        as_aux_lemma => kernel_rfl
    · have hst := rowL_stop f (sgList sg) (most - k) x s (.inl (by omega))
      have HE := Lib.hid (hst.symm.trans HGO.out)
      clear hR hD hb hst
      go_wp2_with fail
      obtain ⟨p1, p2⟩ := HR.out.done HD.out hlr
      rw [← HE.out]
      refine bodyPost_ret (v := .agg #[.int .u8 x.op, .int .i64 x.n, .slice va vn vc]) (results_cell_row rfl _ _ (w.heap.size + 1) 47 _ (0, 0) _ rfl p2 Tryz.underlying47 rfl ?_) rfl p1
      as_aux_lemma => kernel_rfl

end Go.Proofs.YtjbchkgkapccnaaGreatDoor

namespace Go.Proofs.YtjbchkgkapccnaaGreatDoor
open Go.RowKit
set_option linter.unusedVariables false

/-- What is known of a rule's call where it is called. -/
def PrC (g : FuncId) (br : Nat) (E : Int) (f : PSt → Ex × PSt) (n : Nat) : Prop := ∀ st' w', st'.l.length ≤ n → RdAt w' br E st' → Calls Tryz.prog g #[.pointer (some ⟨br, 0, none⟩)] w' (PrPost w' (fun w st => RdAt w br E st) br (f st'))

/-- A result that is laid into the result's block as it is. -/
theorem prPost_pass {w w1 : World} {br : Nat} {E : Int} {st : PSt} {x : Ex} {sv : Value} (B : Nat) (hbr : br < w.heap.size) (hB : w.heap.size < B) (h0 : Blk w1 w.heap.size 47 #[.int .u8 0, .int .i64 0, .slice none 0 0])
    (ha : ArgsIn w1 (fun b => B ≤ b ∧ b < w1.heap.size) x.args sv) (hr : RdAt w1 br E st) (hf : Fr (fun k => k = br) w w1) :
    PrPost w (fun w st => RdAt w br E st) br (x, st) (.returned (.agg #[.int .u8 x.op, .int .i64 x.n, sv])) (((w1.setCell ⟨w.heap.size, 0, none⟩ (.int .u8 x.op)).setCell ⟨w.heap.size, 1, none⟩ (.int .i64 x.n)).setCell ⟨w.heap.size, 2, none⟩ sv) ∧
      Blk (((w1.setCell ⟨w.heap.size, 0, none⟩ (.int .u8 x.op)).setCell ⟨w.heap.size, 1, none⟩ (.int .i64 x.n)).setCell ⟨w.heap.size, 2, none⟩ sv) w.heap.size 47 #[.int .u8 x.op, .int .i64 x.n, sv] :=
  prPost_mk (fun w1 w2 h1 hf => h1.fr hf (fun k hk => by omega)) h0 rfl (Nat.le_refl _) (ha.mono fun b hb => ⟨by omega, by omega, hb.2⟩) hr hf

set_option maxHeartbeats 1000000 in
theorem lv_or (f : PSt → Ex × PSt) (br : Nat) (E : Int) (st : PSt) (w : World) (h : RdAt w br E st) (hlen : Hid (∀ st, (f st).2.l.length ≤ st.l.length)) (hone : Hid (PrC 123 br E f st.l.length)) :
    Calls Tryz.prog 81 #[.pointer (some ⟨br, 0, none⟩)] w (PrPost w (fun w st => RdAt w br E st) br (rowL f (lvSigns 0) (lvMost 0) (f st).1 (f st).2)) := by
  have hlr := h.lt
  have hB := ((Below.refl _ w).alloc (Nat.le_refl _) (.cells #[.int .u8 0, .int .i64 0, .slice none 0 0] 47)).alloc (by simp) (.cells #[.string { data := #[124] }, .int .u8 17] 165)
  have hF := ((Fr.refl (fun k => k = br) w).alloc (.cells #[.int .u8 0, .int .i64 0, .slice none 0 0] 47)).alloc (.cells #[.string { data := #[124] }, .int .u8 17] 165)
  have hres := (Blk.new w #[.int .u8 0, .int .i64 0, .slice none 0 0] 47).alloc (.cells #[.string { data := #[124] }, .int .u8 17] 165)
  have hsg := Blk.new_at (w.alloc (.cells #[.int .u8 0, .int .i64 0, .slice none 0 0] 47)) #[.string { data := #[124] }, .int .u8 17] 165 (k := w.heap.size + 1) (by simp)
  have hsz : ((w.alloc (.cells #[.int .u8 0, .int .i64 0, .slice none 0 0] 47)).alloc (.cells #[.string { data := #[124] }, .int .u8 17] 165)).heap.size = w.heap.size + 2 := by simp
  have hrow : Calls Tryz.prog 122 #[.pointer (some ⟨br, 0, none⟩), .func (.func 123) #[.pointer (some ⟨br, 0, none⟩)] #[], .int .i64 400, .slice (some ⟨w.heap.size + 1, 0, none⟩) 1 1] _ _ :=
    row_c 123 (enters_of Tryz.func123 (by kernel_rfl) rfl) f (sgOf 0) 400 (by omega) br (w.heap.size + 1) E st _ (h.keep hB) ⟨hsg, by decide⟩ (by omega) hlen hone
  rw [sg_0] at hrow
  have HROW := Lib.hid hrow
  have hEQ : Hid (rowL f (lvSigns 0) 400 (f st).1 (f st).2 = rowL f (lvSigns 0) (lvMost 0) (f st).1 (f st).2) := rfl
  have HSZ := Lib.hid hsz
  clear hrow hsz hsg hB
  go_enter Tryz.func81, Tryz.ntmps81
  go_wp2_with (go_at_call 122; refine HROW.out.mono ?_; rintro e w1 ⟨_, rfl, ha, hr, hf⟩; obtain ⟨a9, n9, c9, rfl⟩ := ha.slice; have h0 := hres.fr hf (by omega); have z0 := h0.cell 0; have z1 := h0.cell 1; have z2 := h0.cell 2; have k0 := h0.free 0; have k1 := h0.free 1; have k2 := h0.free 2)
  rw [HSZ.out] at ha
  obtain ⟨p1, p2⟩ := prPost_pass (w.heap.size + 2) hlr (by omega) h0 ha hr (hF.trans hf)
  rw [← hEQ.out]
  refine bodyPost_ret (v := .agg #[_, _, _]) (results_cell_row rfl _ _ w.heap.size 47 _ (0, 0) _ rfl p2 Tryz.underlying47 rfl ?_) rfl p1
  as_aux_lemma => kernel_rfl

set_option maxHeartbeats 1000000 in
theorem lv_and (f : PSt → Ex × PSt) (br : Nat) (E : Int) (st : PSt) (w : World) (h : RdAt w br E st) (hlen : Hid (∀ st, (f st).2.l.length ≤ st.l.length)) (hone : Hid (PrC 154 br E f st.l.length)) :
    Calls Tryz.prog 123 #[.pointer (some ⟨br, 0, none⟩)] w (PrPost w (fun w st => RdAt w br E st) br (rowL f (lvSigns 1) (lvMost 1) (f st).1 (f st).2)) := by
  have hlr := h.lt
  have hB := ((Below.refl _ w).alloc (Nat.le_refl _) (.cells #[.int .u8 0, .int .i64 0, .slice none 0 0] 47)).alloc (by simp) (.cells #[.string { data := #[38] }, .int .u8 16] 165)
  have hF := ((Fr.refl (fun k => k = br) w).alloc (.cells #[.int .u8 0, .int .i64 0, .slice none 0 0] 47)).alloc (.cells #[.string { data := #[38] }, .int .u8 16] 165)
  have hres := (Blk.new w #[.int .u8 0, .int .i64 0, .slice none 0 0] 47).alloc (.cells #[.string { data := #[38] }, .int .u8 16] 165)
  have hsg := Blk.new_at (w.alloc (.cells #[.int .u8 0, .int .i64 0, .slice none 0 0] 47)) #[.string { data := #[38] }, .int .u8 16] 165 (k := w.heap.size + 1) (by simp)
  have hsz : ((w.alloc (.cells #[.int .u8 0, .int .i64 0, .slice none 0 0] 47)).alloc (.cells #[.string { data := #[38] }, .int .u8 16] 165)).heap.size = w.heap.size + 2 := by simp
  have hrow : Calls Tryz.prog 122 #[.pointer (some ⟨br, 0, none⟩), .func (.func 154) #[.pointer (some ⟨br, 0, none⟩)] #[], .int .i64 400, .slice (some ⟨w.heap.size + 1, 0, none⟩) 1 1] _ _ :=
    row_c 154 (enters_of Tryz.func154 (by kernel_rfl) rfl) f (sgOf 1) 400 (by omega) br (w.heap.size + 1) E st _ (h.keep hB) ⟨hsg, by decide⟩ (by omega) hlen hone
  rw [sg_1] at hrow
  have HROW := Lib.hid hrow
  have hEQ : Hid (rowL f (lvSigns 1) 400 (f st).1 (f st).2 = rowL f (lvSigns 1) (lvMost 1) (f st).1 (f st).2) := rfl
  have HSZ := Lib.hid hsz
  clear hrow hsz hsg hB
  go_enter Tryz.func123, Tryz.ntmps123
  go_wp2_with (go_at_call 122; refine HROW.out.mono ?_; rintro e w1 ⟨_, rfl, ha, hr, hf⟩; obtain ⟨a9, n9, c9, rfl⟩ := ha.slice; have h0 := hres.fr hf (by omega); have z0 := h0.cell 0; have z1 := h0.cell 1; have z2 := h0.cell 2; have k0 := h0.free 0; have k1 := h0.free 1; have k2 := h0.free 2)
  rw [HSZ.out] at ha
  obtain ⟨p1, p2⟩ := prPost_pass (w.heap.size + 2) hlr (by omega) h0 ha hr (hF.trans hf)
  rw [← hEQ.out]
  refine bodyPost_ret (v := .agg #[_, _, _]) (results_cell_row rfl _ _ w.heap.size 47 _ (0, 0) _ rfl p2 Tryz.underlying47 rfl ?_) rfl p1
  as_aux_lemma => kernel_rfl

set_option maxHeartbeats 1000000 in
theorem lv_cmp (f : PSt → Ex × PSt) (br : Nat) (E : Int) (st : PSt) (w : World) (h : RdAt w br E st) (hlen : Hid (∀ st, (f st).2.l.length ≤ st.l.length)) (hone : Hid (PrC 170 br E f st.l.length)) :
    Calls Tryz.prog 154 #[.pointer (some ⟨br, 0, none⟩)] w (PrPost w (fun w st => RdAt w br E st) br (rowL f (lvSigns 2) (lvMost 2) (f st).1 (f st).2)) := by
  have hlr := h.lt
  have hB := ((Below.refl _ w).alloc (Nat.le_refl _) (.cells #[.int .u8 0, .int .i64 0, .slice none 0 0] 47)).alloc (by simp) (.cells #[.string { data := #[60] }, .int .u8 12, .string { data := #[60, 61] }, .int .u8 13, .string { data := #[61] }, .int .u8 14, .string { data := #[33, 61] }, .int .u8 15] 165)
  have hF := ((Fr.refl (fun k => k = br) w).alloc (.cells #[.int .u8 0, .int .i64 0, .slice none 0 0] 47)).alloc (.cells #[.string { data := #[60] }, .int .u8 12, .string { data := #[60, 61] }, .int .u8 13, .string { data := #[61] }, .int .u8 14, .string { data := #[33, 61] }, .int .u8 15] 165)
  have hres := (Blk.new w #[.int .u8 0, .int .i64 0, .slice none 0 0] 47).alloc (.cells #[.string { data := #[60] }, .int .u8 12, .string { data := #[60, 61] }, .int .u8 13, .string { data := #[61] }, .int .u8 14, .string { data := #[33, 61] }, .int .u8 15] 165)
  have hsg := Blk.new_at (w.alloc (.cells #[.int .u8 0, .int .i64 0, .slice none 0 0] 47)) #[.string { data := #[60] }, .int .u8 12, .string { data := #[60, 61] }, .int .u8 13, .string { data := #[61] }, .int .u8 14, .string { data := #[33, 61] }, .int .u8 15] 165 (k := w.heap.size + 1) (by simp)
  have hsz : ((w.alloc (.cells #[.int .u8 0, .int .i64 0, .slice none 0 0] 47)).alloc (.cells #[.string { data := #[60] }, .int .u8 12, .string { data := #[60, 61] }, .int .u8 13, .string { data := #[61] }, .int .u8 14, .string { data := #[33, 61] }, .int .u8 15] 165)).heap.size = w.heap.size + 2 := by simp
  have hrow : Calls Tryz.prog 122 #[.pointer (some ⟨br, 0, none⟩), .func (.func 170) #[.pointer (some ⟨br, 0, none⟩)] #[], .int .i64 1, .slice (some ⟨w.heap.size + 1, 0, none⟩) 4 4] _ _ :=
    row_c 170 (enters_of Tryz.func170 (by kernel_rfl) rfl) f (sgOf 2) 1 (by omega) br (w.heap.size + 1) E st _ (h.keep hB) ⟨hsg, by decide⟩ (by omega) hlen hone
  rw [sg_2] at hrow
  have HROW := Lib.hid hrow
  have hEQ : Hid (rowL f (lvSigns 2) 1 (f st).1 (f st).2 = rowL f (lvSigns 2) (lvMost 2) (f st).1 (f st).2) := rfl
  have HSZ := Lib.hid hsz
  clear hrow hsz hsg hB
  go_enter Tryz.func154, Tryz.ntmps154
  go_wp2_with (go_at_call 122; refine HROW.out.mono ?_; rintro e w1 ⟨_, rfl, ha, hr, hf⟩; obtain ⟨a9, n9, c9, rfl⟩ := ha.slice; have h0 := hres.fr hf (by omega); have z0 := h0.cell 0; have z1 := h0.cell 1; have z2 := h0.cell 2; have k0 := h0.free 0; have k1 := h0.free 1; have k2 := h0.free 2)
  rw [HSZ.out] at ha
  obtain ⟨p1, p2⟩ := prPost_pass (w.heap.size + 2) hlr (by omega) h0 ha hr (hF.trans hf)
  rw [← hEQ.out]
  refine bodyPost_ret (v := .agg #[_, _, _]) (results_cell_row rfl _ _ w.heap.size 47 _ (0, 0) _ rfl p2 Tryz.underlying47 rfl ?_) rfl p1
  as_aux_lemma => kernel_rfl

set_option maxHeartbeats 1000000 in
theorem lv_sum (f : PSt → Ex × PSt) (br : Nat) (E : Int) (st : PSt) (w : World) (h : RdAt w br E st) (hlen : Hid (∀ st, (f st).2.l.length ≤ st.l.length)) (hone : Hid (PrC 176 br E f st.l.length)) :
    Calls Tryz.prog 170 #[.pointer (some ⟨br, 0, none⟩)] w (PrPost w (fun w st => RdAt w br E st) br (rowL f (lvSigns 3) (lvMost 3) (f st).1 (f st).2)) := by
  have hlr := h.lt
  have hB := ((Below.refl _ w).alloc (Nat.le_refl _) (.cells #[.int .u8 0, .int .i64 0, .slice none 0 0] 47)).alloc (by simp) (.cells #[.string { data := #[43] }, .int .u8 7, .string { data := #[45] }, .int .u8 8] 165)
  have hF := ((Fr.refl (fun k => k = br) w).alloc (.cells #[.int .u8 0, .int .i64 0, .slice none 0 0] 47)).alloc (.cells #[.string { data := #[43] }, .int .u8 7, .string { data := #[45] }, .int .u8 8] 165)
  have hres := (Blk.new w #[.int .u8 0, .int .i64 0, .slice none 0 0] 47).alloc (.cells #[.string { data := #[43] }, .int .u8 7, .string { data := #[45] }, .int .u8 8] 165)
  have hsg := Blk.new_at (w.alloc (.cells #[.int .u8 0, .int .i64 0, .slice none 0 0] 47)) #[.string { data := #[43] }, .int .u8 7, .string { data := #[45] }, .int .u8 8] 165 (k := w.heap.size + 1) (by simp)
  have hsz : ((w.alloc (.cells #[.int .u8 0, .int .i64 0, .slice none 0 0] 47)).alloc (.cells #[.string { data := #[43] }, .int .u8 7, .string { data := #[45] }, .int .u8 8] 165)).heap.size = w.heap.size + 2 := by simp
  have hrow : Calls Tryz.prog 122 #[.pointer (some ⟨br, 0, none⟩), .func (.func 176) #[.pointer (some ⟨br, 0, none⟩)] #[], .int .i64 400, .slice (some ⟨w.heap.size + 1, 0, none⟩) 2 2] _ _ :=
    row_c 176 (enters_of Tryz.func176 (by kernel_rfl) rfl) f (sgOf 3) 400 (by omega) br (w.heap.size + 1) E st _ (h.keep hB) ⟨hsg, by decide⟩ (by omega) hlen hone
  rw [sg_3] at hrow
  have HROW := Lib.hid hrow
  have hEQ : Hid (rowL f (lvSigns 3) 400 (f st).1 (f st).2 = rowL f (lvSigns 3) (lvMost 3) (f st).1 (f st).2) := rfl
  have HSZ := Lib.hid hsz
  clear hrow hsz hsg hB
  go_enter Tryz.func170, Tryz.ntmps170
  go_wp2_with (go_at_call 122; refine HROW.out.mono ?_; rintro e w1 ⟨_, rfl, ha, hr, hf⟩; obtain ⟨a9, n9, c9, rfl⟩ := ha.slice; have h0 := hres.fr hf (by omega); have z0 := h0.cell 0; have z1 := h0.cell 1; have z2 := h0.cell 2; have k0 := h0.free 0; have k1 := h0.free 1; have k2 := h0.free 2)
  rw [HSZ.out] at ha
  obtain ⟨p1, p2⟩ := prPost_pass (w.heap.size + 2) hlr (by omega) h0 ha hr (hF.trans hf)
  rw [← hEQ.out]
  refine bodyPost_ret (v := .agg #[_, _, _]) (results_cell_row rfl _ _ w.heap.size 47 _ (0, 0) _ rfl p2 Tryz.underlying47 rfl ?_) rfl p1
  as_aux_lemma => kernel_rfl

set_option maxHeartbeats 1000000 in
theorem lv_term (f : PSt → Ex × PSt) (br : Nat) (E : Int) (st : PSt) (w : World) (h : RdAt w br E st) (hlen : Hid (∀ st, (f st).2.l.length ≤ st.l.length)) (hone : Hid (PrC 177 br E f st.l.length)) :
    Calls Tryz.prog 176 #[.pointer (some ⟨br, 0, none⟩)] w (PrPost w (fun w st => RdAt w br E st) br (rowL f (lvSigns 4) (lvMost 4) (f st).1 (f st).2)) := by
  have hlr := h.lt
  have hB := ((Below.refl _ w).alloc (Nat.le_refl _) (.cells #[.int .u8 0, .int .i64 0, .slice none 0 0] 47)).alloc (by simp) (.cells #[.string { data := #[42] }, .int .u8 9, .string { data := #[47] }, .int .u8 10, .string { data := #[37] }, .int .u8 11] 165)
  have hF := ((Fr.refl (fun k => k = br) w).alloc (.cells #[.int .u8 0, .int .i64 0, .slice none 0 0] 47)).alloc (.cells #[.string { data := #[42] }, .int .u8 9, .string { data := #[47] }, .int .u8 10, .string { data := #[37] }, .int .u8 11] 165)
  have hres := (Blk.new w #[.int .u8 0, .int .i64 0, .slice none 0 0] 47).alloc (.cells #[.string { data := #[42] }, .int .u8 9, .string { data := #[47] }, .int .u8 10, .string { data := #[37] }, .int .u8 11] 165)
  have hsg := Blk.new_at (w.alloc (.cells #[.int .u8 0, .int .i64 0, .slice none 0 0] 47)) #[.string { data := #[42] }, .int .u8 9, .string { data := #[47] }, .int .u8 10, .string { data := #[37] }, .int .u8 11] 165 (k := w.heap.size + 1) (by simp)
  have hsz : ((w.alloc (.cells #[.int .u8 0, .int .i64 0, .slice none 0 0] 47)).alloc (.cells #[.string { data := #[42] }, .int .u8 9, .string { data := #[47] }, .int .u8 10, .string { data := #[37] }, .int .u8 11] 165)).heap.size = w.heap.size + 2 := by simp
  have hrow : Calls Tryz.prog 122 #[.pointer (some ⟨br, 0, none⟩), .func (.func 177) #[.pointer (some ⟨br, 0, none⟩)] #[], .int .i64 400, .slice (some ⟨w.heap.size + 1, 0, none⟩) 3 3] _ _ :=
    row_c 177 (enters_of Tryz.func177 (by kernel_rfl) rfl) f (sgOf 4) 400 (by omega) br (w.heap.size + 1) E st _ (h.keep hB) ⟨hsg, by decide⟩ (by omega) hlen hone
  rw [sg_4] at hrow
  have HROW := Lib.hid hrow
  have hEQ : Hid (rowL f (lvSigns 4) 400 (f st).1 (f st).2 = rowL f (lvSigns 4) (lvMost 4) (f st).1 (f st).2) := rfl
  have HSZ := Lib.hid hsz
  clear hrow hsz hsg hB
  go_enter Tryz.func176, Tryz.ntmps176
  go_wp2_with (go_at_call 122; refine HROW.out.mono ?_; rintro e w1 ⟨_, rfl, ha, hr, hf⟩; obtain ⟨a9, n9, c9, rfl⟩ := ha.slice; have h0 := hres.fr hf (by omega); have z0 := h0.cell 0; have z1 := h0.cell 1; have z2 := h0.cell 2; have k0 := h0.free 0; have k1 := h0.free 1; have k2 := h0.free 2)
  rw [HSZ.out] at ha
  obtain ⟨p1, p2⟩ := prPost_pass (w.heap.size + 2) hlr (by omega) h0 ha hr (hF.trans hf)
  rw [← hEQ.out]
  refine bodyPost_ret (v := .agg #[_, _, _]) (results_cell_row rfl _ _ w.heap.size 47 _ (0, 0) _ rfl p2 Tryz.underlying47 rfl ?_) rfl p1
  as_aux_lemma => kernel_rfl

end Go.Proofs.YtjbchkgkapccnaaGreatDoor

namespace Go.Proofs.YtjbchkgkapccnaaGreatDoor
open Go.RowKit
set_option linter.unusedVariables false

def DeepC (h : Nat) : Prop := ∀ (x : Ex) (v : Value) (B : Nat) (w : World) (bD k : Nat) (i : Int), x.ht ≤ h → ExAt w B v x → i = (k : Int) → B ≤ w.heap.size → k ≤ 100 → bD < w.heap.size →
  w.cell? ⟨bD, 0, none⟩ = some (.func (.func 125) #[] #[.pointer (some ⟨bD, 0, none⟩)]) →
  Calls Tryz.prog 125 #[v, .int .i64 i, .pointer (some ⟨bD, 0, none⟩)] w fun e w' => e = .returned (.int .i64 (deepN k x)) ∧ Below w.heap.size w w'

set_option maxHeartbeats 1000000 in
theorem deep_step (h : Nat) (IH : Hid (∀ x : Ex, x.ht < h → ∀ (v : Value) (B : Nat) (w : World) (bD k : Nat) (i : Int), ExAt w B v x → i = (k : Int) → B ≤ w.heap.size → k ≤ 100 → bD < w.heap.size →
      w.cell? ⟨bD, 0, none⟩ = some (.func (.func 125) #[] #[.pointer (some ⟨bD, 0, none⟩)]) →
      Calls Tryz.prog 125 #[v, .int .i64 i, .pointer (some ⟨bD, 0, none⟩)] w fun e w' => e = .returned (.int .i64 (deepN k x)) ∧ Below w.heap.size w w')) : DeepC h := by
  intro x v B w bD k i hh hv hi hB hk hbD hD
  have HLT : Hid (∀ a ∈ x.args, a.ht < h) := fun a ha => by have := Ex.ht_args x a ha; omega
  have HE : Hid (∀ k', k = k' + 1 → deepN k x = x.args.foldl (fun n a => max n (deepN k' a)) 0 + 1) := fun k' e => by subst e; rfl
  have HE0 : Hid (k = 0 → deepN k x = 1) := fun e => by subst e; rfl
  obtain ⟨sv, rfl, hs⟩ := hv
  obtain ⟨a, cap, rfl, hcap, hmx⟩ := hs.slice
  have HS := Lib.hid hs
  have hlm : x.args.length ≤ 9223372036854775807 := by unfold maxLen at hmx; omega
  generalize x.op = o at *
  generalize x.n = n at *
  generalize x.args = l at *
  clear hs hh
  have HDD := Lib.hid hD
  clear hD
  go_enter Tryz.func125, Tryz.ntmps125
  go_wp2
  have hW := (Below.refl w.heap.size w).alloc (Nat.le_refl _) (.cells #[.int .u8 o, .int .i64 n, .slice a l.length cap] 47)
  generalize World.alloc w _ = W at *
  by_cases hk0 : 0 < k
  · obtain ⟨k', hk'⟩ : ∃ k', k = k' + 1 := ⟨k - 1, by omega⟩
    have HE2 := Lib.hid (HE.out k' hk')
    have HI := Lib.hid (show i = (k' : Int) + 1 by omega)
    have hip : 0 < i := by omega
    have hi100 : i ≤ 100 := by omega
    clear hi hk'
    go_loopw [6, 12] (fun s q wr => ∃ j m : Nat, q = .int .i64 j ∧ s = .int .i64 m ∧ j ≤ l.length ∧ m ≤ 200 ∧ Below w.heap.size w wr ∧ (l.drop j).foldl (fun n a => max n (deepN k' a)) m = l.foldl (fun n a => max n (deepN k' a)) 0) (fun _ q _ => l.length - (intOf q).toNat)
    case atStart => exact ⟨0, 0, rfl, rfl, Nat.zero_le _, by omega, hW, rfl⟩
    case round =>
      obtain ⟨j, m, rfl, rfl, hj, hm, hBr, hr⟩ := hrel
      by_cases hlt : j < l.length
      · obtain ⟨b, off, cp, sv, e1, hb, c0, c1, c2, hsub⟩ := ((HS.out.mono hB).keep hBr).at_ j hlt
        simp only [Value.slice.injEq, true_and] at e1
        obtain ⟨rfl, rfl⟩ := e1
        obtain ⟨a2, cap2, rfl, _, _⟩ := hsub.slice
        rw [List.drop_eq_getElem_cons hlt] at hr
        simp only [List.foldl_cons] at hr
        have hht := HLT.out _ (List.getElem_mem hlt)
        have hx : ∀ X, Below wr.heap.size wr X → ExAt X X.heap.size (.agg #[.int .u8 (l[j]'hlt).op, .int .i64 (l[j]'hlt).n, .slice a2 (l[j]'hlt).args.length cap2]) (l[j]'hlt) := fun X hX => ⟨_, rfl, (hsub.keep (hX.mono hBr.size)).mono (Nat.le_trans hBr.size hX.size)⟩
        have hdl := deepN_le k' (l[j]'hlt)
        have hk100 : k' ≤ 100 := by have := HI.out; omega
        generalize l[j] = y at *
        have HX := Lib.hid hx
        have HR := Lib.hid hr
        clear hr hx hsub
        have hbr := hBr.size
        have hD2 : (wr.alloc (.cells #[.int .u8 y.op, .int .i64 y.n, .slice a2 y.args.length cap2] 47)).cell? ⟨bD, 0, none⟩ = some (.func (.func 125) #[] #[.pointer (some ⟨bD, 0, none⟩)]) :=
          (((Below.refl wr.heap.size wr).alloc (Nat.le_refl _) _).cell (p := ⟨bD, 0, none⟩) (by show bD < _; omega)).trans ((hBr.cell (p := ⟨bD, 0, none⟩) hbD).trans HDD.out)
        have HD2 := Lib.hid hD2
        generalize hdd : deepN k' y = dd at *
        have HDE := Lib.hid hdd
        clear hdd
        go_wp2_with (go_at_call 125; refine (IH.out y hht _ _ _ bD k' _ (HX.out _ ((Below.refl _ _).alloc (Nat.le_refl _) _)) (by have := HI.out; omega) (Nat.le_refl _) (by have := HI.out; omega) (by simp; omega) HD2.out).mono ?_; rintro e w3 ⟨rfl, hb3⟩; rw [HDE.out])
        go_roundw
        case rel => exact ⟨j + 1, max m dd, by go_num, by congr 1; split <;> omega, by omega, by omega, (hBr.alloc hBr.size _).trans (hb3.mono (by simp; omega)), by rw [← HR.out]⟩
        case measure => simp [intOf]; omega
      · rw [List.drop_of_length_le (by omega)] at hr
        simp only [List.foldl_nil] at hr
        have HR := Lib.hid hr
        clear hr
        go_wp2
        go_ret
        exact ⟨ret_int (by rw [HE2.out, ← HR.out]; rfl), hBr⟩
  · have HE2 := Lib.hid (HE0.out (by omega))
    have hip : ¬ 0 < i := by omega
    clear hi
    go_loopw [6, 12] (fun s q wr => ∃ j : Nat, q = .int .i64 j ∧ s = .int .i64 0 ∧ j ≤ l.length ∧ Below w.heap.size w wr) (fun _ q _ => l.length - (intOf q).toNat)
    case atStart => exact ⟨0, rfl, rfl, Nat.zero_le _, hW⟩
    case round =>
      obtain ⟨j, rfl, rfl, hj, hBr⟩ := hrel
      by_cases hlt : j < l.length
      · obtain ⟨b, off, cp, sv, e1, hb, c0, c1, c2, hsub⟩ := ((HS.out.mono hB).keep hBr).at_ j hlt
        simp only [Value.slice.injEq, true_and] at e1
        obtain ⟨rfl, rfl⟩ := e1
        obtain ⟨a2, cap2, rfl, _, _⟩ := hsub.slice
        go_wp2
        go_roundw
        case rel => exact ⟨j + 1, by go_num, rfl, by omega, hBr.alloc hBr.size _⟩
        case measure => simp [intOf]; omega
      · go_wp2
        go_ret
        exact ⟨ret_int (by rw [HE2.out]; rfl), hBr⟩

theorem deep_all (h : Nat) : DeepC h := by
  induction h using Nat.strongRecOn with
  | ind h ih => exact deep_step h (fun x hx v B w bD k i hv hi hB hk hb hD => ih x.ht hx x v B w bD k i (Nat.le_refl _) hv hi hB hk hb hD)

set_option maxHeartbeats 400000 in
theorem Deep_c (x : Ex) (v : Value) (B : Nat) (w : World) (hv : ExAt w B v x) (hB : B ≤ w.heap.size) :
    Calls Tryz.prog 83 #[v] w fun e w' => e = .returned (.int .i64 (deepN 16 x)) ∧ Below w.heap.size w w' := by
  obtain ⟨sv, rfl, hs⟩ := hv
  obtain ⟨a, cap, rfl, hcap, hmx⟩ := hs.slice
  have HV : Hid (ExAt w B _ x) := ⟨_, rfl, hs⟩
  clear hs
  have hle := deepN_le 16 x
  generalize hd : deepN 16 x = d at *
  have HD := Lib.hid hd
  clear hd
  have hB1 := (((Below.refl w.heap.size w).alloc (Nat.le_refl _) (.cells #[.int .u8 x.op, .int .i64 x.n, .slice a x.args.length cap] 47)).alloc (by simp) (.cells #[.func (.func 125) #[] #[.pointer (some ⟨w.heap.size + 1, 0, none⟩)]] 101))
  go_enter Tryz.func83, Tryz.ntmps83
  go_wp2_with fail
  refine (deep_all x.ht x _ B _ (w.heap.size + 1) 16 _ (Nat.le_refl _) (HV.out.keep (hB1.mono hB)) (by omega) (by simp; omega) (by omega) (by simp) ?_).mono ?_
  · exact (Blk.new_at (w.alloc (.cells #[.int .u8 x.op, .int .i64 x.n, .slice a x.args.length cap] 47)) #[.func (.func 125) #[] #[.pointer (some ⟨w.heap.size + 1, 0, none⟩)]] 101 (k := w.heap.size + 1) (by simp)).cell 0
  rintro e w3 ⟨rfl, hb3⟩
  rw [HD.out]
  go_wp2_with fail
  go_ret
  exact ⟨ret_int (by first | rfl | (split <;> omega)), hB1.trans (hb3.mono (by simp; omega))⟩

end Go.Proofs.YtjbchkgkapccnaaGreatDoor

namespace Go.Proofs.YtjbchkgkapccnaaGreatDoor
open Go.RowKit
set_option linter.unusedVariables false

def RDeepC (h : Nat) : Prop := ∀ (x : Ex) (v : Value) (B : Nat) (w : World) (k : Nat) (i : Int), x.ht ≤ h → ExAt w B v x → i = (k : Int) + 1 → B ≤ w.heap.size → k ≤ 100 →
  Calls Tryz.prog 139 #[v, .int .i64 i] w fun e w' => e = .returned (.int .i64 (deepN k x)) ∧ Below w.heap.size w w'

set_option maxHeartbeats 1000000 in
theorem rdeep_step (h : Nat) (IH : Hid (∀ x : Ex, x.ht < h → ∀ (v : Value) (B : Nat) (w : World) (k : Nat) (i : Int), ExAt w B v x → i = (k : Int) + 1 → B ≤ w.heap.size → k ≤ 100 →
      Calls Tryz.prog 139 #[v, .int .i64 i] w fun e w' => e = .returned (.int .i64 (deepN k x)) ∧ Below w.heap.size w w')) : RDeepC h := by
  intro x v B w k i hh hv hi hB hk
  have HLT : Hid (∀ a ∈ x.args, a.ht < h) := fun a ha => by have := Ex.ht_args x a ha; omega
  have HE : Hid (∀ k', k = k' + 1 → deepN k x = x.args.foldl (fun n a => max n (deepN k' a)) 0 + 1) := fun k' e => by subst e; rfl
  have HE0 : Hid (k = 0 → deepN k x = 1) := fun e => by subst e; rfl
  obtain ⟨sv, rfl, hs⟩ := hv
  obtain ⟨a, cap, rfl, hcap, hmx⟩ := hs.slice
  have HS := Lib.hid hs
  have hlm : x.args.length ≤ 9223372036854775807 := by unfold maxLen at hmx; omega
  generalize x.op = o at *
  generalize x.n = n at *
  generalize x.args = l at *
  clear hs hh
  by_cases hk0 : 0 < k
  · obtain ⟨k', hk'⟩ : ∃ k', k = k' + 1 := ⟨k - 1, by omega⟩
    have HE2 := Lib.hid (HE.out k' hk')
    have HI := Lib.hid (show i = (k' : Int) + 1 + 1 by omega)
    have hip : ¬ i ≤ 1 := by omega
    have hi100 : i ≤ 101 := by omega
    have hi1 : 1 ≤ i := by omega
    clear hi hk'
    go_enter Tryz.func139, Tryz.ntmps139
    go_wp2
    have hW := (Below.refl w.heap.size w).alloc (Nat.le_refl _) (.cells #[.int .u8 o, .int .i64 n, .slice a l.length cap] 47)
    have hbx := Blk.new w #[.int .u8 o, .int .i64 n, .slice a l.length cap] 47
    have hz : w.heap.size < (w.alloc (.cells #[.int .u8 o, .int .i64 n, .slice a l.length cap] 47)).heap.size := hbx.lt
    generalize World.alloc w _ = W at *
    go_loopw [5, 6] (fun s q wr => ∃ j m : Nat, q = .int .i64 j ∧ s = .int .i64 m ∧ j ≤ l.length ∧ m ≤ 200 ∧ Below W.heap.size W wr ∧ (l.drop j).foldl (fun n a => max n (deepN k' a)) m = l.foldl (fun n a => max n (deepN k' a)) 0) (fun _ q _ => l.length - (intOf q).toNat)
    case atStart => exact ⟨0, 0, rfl, rfl, Nat.zero_le _, by omega, Below.refl _ _, rfl⟩
    case round =>
      obtain ⟨j, m, rfl, rfl, hj, hm, hBr0, hr⟩ := hrel
      have hBr := hW.trans (hBr0.mono (by omega))
      have hbr2 := hbx.below hBr0 hz
      have p2 := hbr2.cell 2
      by_cases hlt : j < l.length
      · obtain ⟨b, off, cp, sv, e1, hb, c0, c1, c2, hsub⟩ := ((HS.out.mono hB).keep hBr).at_ j hlt
        simp only [Value.slice.injEq, true_and] at e1
        obtain ⟨rfl, rfl⟩ := e1
        obtain ⟨a2, cap2, rfl, _, _⟩ := hsub.slice
        rw [List.drop_eq_getElem_cons hlt] at hr
        simp only [List.foldl_cons] at hr
        have hht := HLT.out _ (List.getElem_mem hlt)
        have hdl := deepN_le k' (l[j]'hlt)
        have hk100 : k' ≤ 100 := by have := HI.out; omega
        generalize l[j] = y at *
        have HX : Hid (ExAt wr wr.heap.size (.agg #[.int .u8 y.op, .int .i64 y.n, .slice a2 y.args.length cap2]) y) := ⟨_, rfl, hsub.mono hBr.size⟩
        have HR := Lib.hid hr
        clear hr hsub
        have hbr := hBr.size
        generalize hdd : deepN k' y = dd at *
        have HDE := Lib.hid hdd
        clear hdd
        by_cases hgt : (m : Int) < (dd : Int)
        · go_wp2_with (go_at_call 139; refine (IH.out y hht _ _ _ k' _ HX.out (by have := HI.out; omega) (Nat.le_refl _) hk100).mono ?_; rintro e w3 ⟨rfl, hb3⟩; rw [HDE.out])
          go_roundw
          case rel => exact ⟨j + 1, dd, by go_num, rfl, by omega, by omega, hBr0.trans (hb3.mono hBr0.size), by rw [← HR.out, Nat.max_eq_right (by omega)]⟩
          case measure => simp [intOf]; omega
        · go_wp2_with (go_at_call 139; refine (IH.out y hht _ _ _ k' _ HX.out (by have := HI.out; omega) (Nat.le_refl _) hk100).mono ?_; rintro e w3 ⟨rfl, hb3⟩; rw [HDE.out])
          go_roundw
          case rel => exact ⟨j + 1, m, by go_num, rfl, by omega, by omega, hBr0.trans (hb3.mono hBr0.size), by rw [← HR.out, Nat.max_eq_left (by omega)]⟩
          case measure => simp [intOf]; omega
      · rw [List.drop_of_length_le (by omega)] at hr
        simp only [List.foldl_nil] at hr
        have HR := Lib.hid hr
        clear hr
        go_wp2
        go_ret
        exact ⟨ret_int (by rw [HE2.out, ← HR.out]; rfl), hBr⟩
  · have HE2 := Lib.hid (HE0.out (by omega))
    have hi1 : i = 1 := by omega
    subst hi1
    clear hi
    go_enter Tryz.func139, Tryz.ntmps139
    go_wp2
    go_ret
    exact ⟨ret_int (by rw [HE2.out]; rfl), (Below.refl _ _).alloc (Nat.le_refl _) _⟩

theorem rdeep_all (h : Nat) : RDeepC h := by
  induction h using Nat.strongRecOn with
  | ind h ih => exact rdeep_step h (fun x hx v B w k i hv hi hB hk => ih x.ht hx x v B w k i (Nat.le_refl _) hv hi hB hk)

set_option maxHeartbeats 400000 in
theorem rDeep_c (x : Ex) (v : Value) (B : Nat) (w : World) (hv : ExAt w B v x) (hB : B ≤ w.heap.size) :
    Calls Tryz.prog 100 #[v] w fun e w' => e = .returned (.int .i64 (deepN 16 x)) ∧ Below w.heap.size w w' := by
  obtain ⟨sv, rfl, hs⟩ := hv
  obtain ⟨a, cap, rfl, hcap, hmx⟩ := hs.slice
  have HV : Hid (ExAt w B _ x) := ⟨_, rfl, hs⟩
  clear hs
  go_enter Tryz.func100, Tryz.ntmps100
  go_wp2_with (go_at_call 139; refine (rdeep_all x.ht x _ B _ 16 _ (Nat.le_refl _) (HV.out.keep ((Below.refl _ _).alloc hB _)) (by omega) (by simp; omega) (by omega)).mono ?_; rintro e w3 ⟨rfl, hb3⟩)
  go_ret
  exact ⟨rfl, ((Below.refl _ _).alloc (Nat.le_refl _) _).trans (hb3.mono (by simp))⟩

set_option maxHeartbeats 2000000 in
theorem rargs_c (op : Int) (h0 : 0 ≤ op) (h1 : op ≤ 18) (w : World) : Calls Tryz.prog 140 #[.int .u8 op] w fun e w' => e = .returned (.int .i64 (manyN op)) ∧ Below w.heap.size w w' := by
  obtain rfl | rfl | rfl | rfl | rfl | rfl | rfl | rfl | rfl | rfl | rfl | rfl | rfl | rfl | rfl | rfl | rfl | rfl | rfl : op = 0 ∨ op = 1 ∨ op = 2 ∨ op = 3 ∨ op = 4 ∨ op = 5 ∨ op = 6 ∨ op = 7 ∨ op = 8 ∨ op = 9 ∨ op = 10 ∨ op = 11 ∨ op = 12 ∨ op = 13 ∨ op = 14 ∨ op = 15 ∨ op = 16 ∨ op = 17 ∨ op = 18 := by omega
  all_goals
    go_enter Tryz.func140, Tryz.ntmps140
    go_wp2
    go_ret
    exact ⟨ret_int (by decide), (Below.refl _ _).alloc (Nat.le_refl _) _⟩

/-- As the reference has it: shapes, k levels down. -/
def shapedN : Nat → Ex → Bool
  | 0, _ => true
  | k + 1, x => shapeB x && x.args.all (shapedN k)

theorem foldl_max_lt (f : Ex → Nat) : ∀ (l : List Ex) (m k : Nat), m ≤ k → (∀ a ∈ l, f a ≤ k) → l.foldl (fun n a => max n (f a)) m ≤ k
  | [], m, k, h, _ => h
  | x :: l, m, k, h, ha => foldl_max_lt f l _ k (Nat.max_le.2 ⟨h, ha x (by simp)⟩) fun a hm => ha a (by simp [hm])

theorem mayB_shaped : ∀ (k : Nat) (x : Ex), mayB k x = (decide (deepN k x ≤ k) && shapedN (k + 1) x)
  | 0, x => by simp [mayB, deepN]
  | k + 1, x => by
    have ih : ∀ a, mayB k a = (decide (deepN k a ≤ k) && shapedN (k + 1) a) := mayB_shaped k
    have hd : decide (deepN (k + 1) x ≤ k + 1) = x.args.all (fun a => decide (deepN k a ≤ k)) := by
      rw [Bool.eq_iff_iff, decide_eq_true_eq, List.all_eq_true]
      simp only [deepN, decide_eq_true_eq]
      constructor
      · intro h a ha
        have hx : ∀ (l : List Ex) (m : Nat), l.foldl (fun n a => max n (deepN k a)) m ≤ k → m ≤ k ∧ ∀ a ∈ l, deepN k a ≤ k := by
          intro l
          induction l with
          | nil => exact fun m h => ⟨h, by simp⟩
          | cons y l ih =>
            intro m h
            obtain ⟨h1, h2⟩ := ih _ h
            have h1' : max m (deepN k y) ≤ k := h1
            refine ⟨by have := Nat.le_max_left m (deepN k y); omega, fun a ha => ?_⟩
            rcases List.mem_cons.1 ha with rfl | ha
            · have := Nat.le_max_right m (deepN k a); omega
            · exact h2 a ha
        exact (hx x.args 0 (by omega)).2 a ha
      · intro h
        have := foldl_max_lt (deepN k) x.args 0 k (Nat.zero_le _) h
        omega
    have hall : x.args.all (mayB k) = (x.args.all (fun a => decide (deepN k a ≤ k)) && x.args.all (shapedN (k + 1))) := by
      clear hd
      induction x.args with
      | nil => rfl
      | cons a l ihl => simp only [List.all_cons]; rw [ihl, ih a]; cases decide (deepN k a ≤ k) <;> cases shapedN (k + 1) a <;> simp
    have e : shapedN (k + 1 + 1) x = (shapeB x && x.args.all (shapedN (k + 1))) := rfl
    rw [hd, e]
    simp only [mayB]
    rw [hall]
    cases shapeB x <;> simp

end Go.Proofs.YtjbchkgkapccnaaGreatDoor
