/-
  Plain definitions: what lex.Tokens computes.
-/
import Derived.Test.YtfieoehchghiiaaL0
namespace Go.Proofs.Ytfieoehchghiiaa
open Go.RowKit
set_option linter.unusedVariables false

def signB (r : Int) : Bool := decide (r = 43 ∨ r = 45 ∨ r = 42 ∨ r = 47 ∨ r = 37 ∨ r = 40 ∨ r = 41 ∨ r = 38 ∨ r = 124 ∨ r = 33 ∨ r = 61 ∨ r = 60)

/-- What a rune begins. -/
def kindN (r : Int) : Int := if 48 ≤ r ∧ r ≤ 57 then 2 else if signB r then 3 else if nameB (Utf8.encode r) then 1 else 0

/-- What a row of digits comes to; none: it is too great. -/
def numGo : Int → List Int → Option Int
  | n, [] => some n
  | n, r :: rs => if n > (9223372036854775807 - (r - 48)) / 10 then none else numGo (10 * n + (r - 48)) rs

/-- Whether a token goes on with a rune. -/
def goesB (k : Int) (tx : ByteArray) (r : Int) : Bool :=
  if k = 3 then decide (r = 61) && (decide (tx.toList = [33]) || decide (tx.toList = [60])) else decide (k ≠ 0) && decide (kindN r = k)

/-- A token. -/
structure Tok where
  kind : Int
  text : ByteArray
  n : Int
  at_ : Int

def Tok.cells (t : Tok) : List Value := [.int .u8 t.kind, .string t.text, .int .i64 t.n, .int .i64 t.at_]
def Tok.agg (t : Tok) : Value := .agg #[.int .u8 t.kind, .string t.text, .int .i64 t.n, .int .i64 t.at_]
def Tok.zero : Tok := ⟨0, { data := #[] }, 0, 0⟩
def toksCells (l : List Tok) : List Value := l.flatMap Tok.cells
theorem toksCells_length (l : List Tok) : (toksCells l).length = l.length * 4 := by
  induction l with
  | nil => rfl
  | cons t l ih => simp only [toksCells, List.flatMap_cons, List.length_append, List.length_cons] at *; rw [ih]; simp [Tok.cells]; omega
theorem toksCells_snoc (l : List Tok) (t : Tok) : toksCells (l ++ [t]) = toksCells l ++ t.cells := by simp [toksCells]

/-- The end of a token: the row with it; none: a number that is too great. -/
def endTok (t : Tok) (out : List Tok) : Option (List Tok) :=
  if t.kind = 2 then match numGo 0 (runes t.text) with
    | none => none
    | some m => some (out ++ [⟨2, { data := #[] }, m, t.at_⟩])
  else if t.kind = 0 then some out else some (out ++ [t])

/-- What lex.Tokens tells: tokens, a place, an error. -/
def tokGo (t : Tok) (pos : Int) (out : List Tok) : List Int → List Tok × Int × Int
  | [] => match endTok t out with
    | none => ([], t.at_, 71)
    | some o => (o, 0, 0)
  | r :: rs =>
    if goesB t.kind t.text r then tokGo { t with text := t.text ++ Utf8.encode r } (pos + 1) out rs
    else match endTok t out with
      | none => ([], t.at_, 71)
      | some o =>
        if r = 32 ∨ r = 9 then tokGo Tok.zero (pos + 1) o rs
        else if kindN r = 0 then ([], pos + 1, 70)
        else tokGo ⟨kindN r, Utf8.encode r, 0, pos + 1⟩ (pos + 1) o rs

def toks (s : ByteArray) : List Tok × Int × Int := if 400 < s.size then ([], 0, 3) else tokGo Tok.zero (-1) [] (runes s)

end Go.Proofs.Ytfieoehchghiiaa
