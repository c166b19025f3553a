/-
  The map of kind's rules: laws on a map whose keys are rows.
-/
import Derived.Test.YtfieoehchghiiaaK1
namespace Go.Proofs.Ytfieoehchghiiaa
open Go.RowKit
set_option linter.unusedVariables false

structure Row where
  op : Int
  a : Int
  b : Int
  c : Int
deriving DecidableEq

def Row.v (r : Row) : Value := .agg #[.int .u8 r.op, .int .u8 r.a, .int .u8 r.b, .int .u8 r.c]

theorem eq_u8 (d : Nat) (x y : Int) (w : World) : (Op.equalIn (d + 1) 5 (.int .u8 x) (.int .u8 y)).run Try.prog w = .ok (x == y) w := by
  unfold Op.equalIn
  go_simp
theorem eq_arr (d : Nat) (a b c a' b' c' : Int) (w : World) : (Op.equalIn (d + 2) 142 (.agg #[.int .u8 a, .int .u8 b, .int .u8 c]) (.agg #[.int .u8 a', .int .u8 b', .int .u8 c'])).run Try.prog w = .ok (a == a' && (b == b' && c == c')) w := by
  unfold Op.equalIn
  go_simp
  rw [show List.range' 0 3 = [0, 1, 2] from rfl]
  simp only [List.forIn_cons, List.forIn_nil]
  go_simp
  by_cases h1 : a = a'
  · by_cases h2 : b = b'
    · by_cases h3 : c = c' <;> simp [h1, h2, h3]
    · simp [h1, h2]
  · simp [h1]
theorem run_eq_row (r s : Row) (w : World) : (Op.equal 144 r.v s.v).run Try.prog w = .ok (decide (r = s)) w := by
  obtain ⟨o, a, b, c⟩ := r
  obtain ⟨o', a', b', c'⟩ := s
  simp only [Row.v]
  unfold Op.equal Op.maxDepth Op.equalIn
  go_simp
  rw [show (Op.equalIn 9999 142 (.agg #[.int .u8 a, .int .u8 b, .int .u8 c]) (.agg #[.int .u8 a', .int .u8 b', .int .u8 c'])).run Try.prog w = _ from eq_arr 9997 a b c a' b' c' w]
  by_cases h1 : o = o'
  · by_cases h2 : a = a'
    · by_cases h3 : b = b'
      · by_cases h4 : c = c'
        · simp [h1, h2, h3, h4, Result.andThen]
        · simp [h1, h2, h3, h4, Result.andThen]
      · simp [h1, h2, h3, Result.andThen]
    · simp [h1, h2, Result.andThen]
  · simp [h1]

theorem ck_u8 (d : Nat) (e : Bool) (x : Int) (w : World) : (Instr.checkKey e (d + 1) 5 (.int .u8 x)).run Try.prog w = .ok () w := by
  unfold Instr.checkKey
  go_simp
theorem ck_arr (d : Nat) (e : Bool) (a b c : Int) (w : World) : (Instr.checkKey e (d + 2) 142 (.agg #[.int .u8 a, .int .u8 b, .int .u8 c])).run Try.prog w = .ok () w := by
  unfold Instr.checkKey
  go_simp
  rw [show List.range' 0 3 = [0, 1, 2] from rfl]
  simp only [List.forIn_cons, List.forIn_nil]
  go_simp
  simp only [ck_u8]
  go_simp
theorem run_checkKey_row (e : Bool) (r : Row) (w : World) : (Instr.checkKey e 10000 144 r.v).run Try.prog w = .ok () w := by
  obtain ⟨o, a, b, c⟩ := r
  simp only [Row.v]
  unfold Instr.checkKey
  go_simp
  rw [show (Instr.checkKey e 9999 5 (.int .u8 o)).run Try.prog w = _ from ck_u8 9998 e o w]
  simp only [Result.andThen]
  exact ck_arr 9997 e a b c w

/-- The first entry at a key. -/
def findRow (r : Row) : List (Row × Int) → Nat → Option (Nat × Int)
  | [], _ => none
  | p :: l, i => if r = p.1 then some (i, p.2) else findRow r l (i + 1)
def getRow (r : Row) (l : List (Row × Int)) : Int := ((findRow r l 0).map (·.2)).getD 0

/-- The entries of a map of rows. -/
def EntsAre (es : List MapEntry) (kv : List (Row × Int)) : Prop := es.map (fun e => (e.key, e.val)) = kv.map (fun p => (p.1.v, Value.int .u8 p.2))

theorem findAsking_row (r : Row) (w : World) : ∀ (kv : List (Row × Int)) (es : List MapEntry) (i : Nat), EntsAre es kv →
    (Instr.findAsking 144 r.v es i).run Try.prog w = .ok ((findRow r kv i).map (fun p => (p.1, Value.int .u8 p.2))) w
  | [], [], i, _ => by unfold Instr.findAsking; go_simp; rfl
  | [], _ :: _, i, h => by simp [EntsAre] at h
  | _ :: _, [], i, h => by simp [EntsAre] at h
  | p :: kv, e :: es, i, h => by
    simp only [EntsAre, List.map_cons, List.cons.injEq, Prod.mk.injEq] at h
    obtain ⟨⟨h1, h2⟩, h3⟩ := h
    have ih := findAsking_row r w kv es (i + 1) h3
    unfold Instr.findAsking findRow
    rw [h1, h2]
    go_simp
    rw [run_eq_row]
    by_cases hr : r = p.1
    · simp [hr, Result.andThen]
    · simp [hr, Result.andThen, ih]

end Go.Proofs.Ytfieoehchghiiaa
