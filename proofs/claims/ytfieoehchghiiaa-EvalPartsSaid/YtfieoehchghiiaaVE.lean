/-
  For EvalDoes: what the reference makes of numbers (plain).
-/
import Derived.Test.YtfieoehchghiiaaVA
namespace Go.Proofs.Ytfieoehchghiiaa
open Go.RowKit
set_option linter.unusedVariables false

/-- A number, or a truth as 1 or 0. -/
def Ev.k : Ev → Int | .int n => n | .bool b => if b then 1 else 0

def truthN (b : Bool) : Int := if b = true then 1 else 0
inductive RefK (o n : Int) (env : Env) (ks : List Int) (R : Int) : Prop
  | num : o = 1 → R = n → RefK o n env ks R
  | key : o = 2 → R = env.key → RefK o n env ks R
  | val : o = 3 → R = env.val → RefK o n env ks R
  | acc : o = 4 → R = env.acc → RefK o n env ks R
  | neg (a : Int) : o = 5 → ks = [a] → R = wrap64 (-a) → RefK o n env ks R
  | not (a : Int) : o = 6 → ks = [a] → (a = 0 ∨ a = 1) → R = 1 - a → RefK o n env ks R
  | add (a b : Int) : o = 7 → ks = [a, b] → R = wrap64 (a + b) → RefK o n env ks R
  | sub (a b : Int) : o = 8 → ks = [a, b] → R = wrap64 (a - b) → RefK o n env ks R
  | mul (a b : Int) : o = 9 → ks = [a, b] → R = wrap64 (a * b) → RefK o n env ks R
  | div0 (a b : Int) : o = 10 → ks = [a, b] → b = 0 → R = 0 → RefK o n env ks R
  | div (a b : Int) : o = 10 → ks = [a, b] → b ≠ 0 → R = wrap64 (a.tdiv b) → RefK o n env ks R
  | mod0 (a b : Int) : o = 11 → ks = [a, b] → b = 0 → R = 0 → RefK o n env ks R
  | mod (a b : Int) : o = 11 → ks = [a, b] → b ≠ 0 → R = a.tmod b → RefK o n env ks R
  | less (a b : Int) : o = 12 → ks = [a, b] → R = truthN (decide (a < b)) → RefK o n env ks R
  | leq (a b : Int) : o = 13 → ks = [a, b] → R = truthN (decide (a ≤ b)) → RefK o n env ks R
  | eq (a b : Int) : o = 14 → ks = [a, b] → R = truthN ((a == b)) → RefK o n env ks R
  | ne (a b : Int) : o = 15 → ks = [a, b] → R = truthN ((a != b)) → RefK o n env ks R
  | and (a b : Int) : o = 16 → ks = [a, b] → (a = 0 ∨ a = 1) → (b = 0 ∨ b = 1) → R = a * b → RefK o n env ks R
  | or (a b : Int) : o = 17 → ks = [a, b] → (a = 0 ∨ a = 1) → (b = 0 ∨ b = 1) → R = truthN (decide (0 < a + b)) → RefK o n env ks R
  | cond (a b c : Int) : o = 18 → ks = [a, b, c] → R = (if a = 1 then b else c) → RefK o n env ks R

theorem Ev.k_int {e : Ev} (h : e.ty = 1) : e.k = e.n := by cases e <;> simp_all [Ev.ty, Ev.k, Ev.n]
theorem Ev.k_bool {e : Ev} (h : e.ty = 2) : e.k = if e.b then 1 else 0 := by
  cases e with
  | int n => simp [Ev.ty] at h
  | bool b => rfl

theorem typed_args {x : Ex} (h : Typed x) (ht : x.ty ≠ 0) : ∀ a ∈ x.args, a.ty ≠ 0 := by
  cases h with
  | leaf h ha _ => rw [ha]; simp
  | neg h a ha h1 _ => rw [ha]; simp [h1]
  | not h a ha h1 _ => rw [ha]; simp [h1]
  | ints h a b ha h1 h2 _ => rw [ha]; simp [h1, h2]
  | bools h a b ha h1 h2 _ => rw [ha]; simp [h1, h2]
  | cond h a b c ha h1 h2 h3 =>
    rw [ha]
    intro y hy
    simp only [List.mem_cons, List.not_mem_nil, or_false] at hy
    rcases hy with rfl | rfl | rfl
    · omega
    · omega
    · omega

theorem refK_of (env : Env) {k : Nat} {x : Ex} (hok : x.ok) (hm : mayB (k + 1) x = true) (ht : x.ty ≠ 0) : RefK x.op x.n env (x.args.map fun y => (y.ev env).k) (x.ev env).k := by
  have hty := typed_of hok hm ht
  simp only [mayB, Bool.and_eq_true, List.all_eq_true] at hm
  have hmem := hm.2
  have hoka := Exs.ok_at x.args (Ex.ok_args hok)
  have hev : ∀ a ∈ x.args, a.ty ≠ 0 → (a.ev env).ty = a.ty := fun a ha h => by
    obtain ⟨i, hi, rfl⟩ := List.mem_iff_getElem.1 ha
    exact ev_ty env k _ (hoka i hi) (hmem _ ha) h
  cases hty with
  | leaf h ha _ =>
    rw [ev_leaf h]
    rcases h with h | h | h | h
    · exact .num h (by rw [h]; rfl)
    · exact .key h (by rw [h]; rfl)
    · exact .val h (by rw [h]; rfl)
    · exact .acc h (by rw [h]; rfl)
  | neg h a ha h1 _ =>
    have e := hev a (by rw [ha]; simp) (by omega)
    rw [ev_neg h ha, ha]
    exact .neg (a.ev env).k h rfl (by rw [Ev.k_int (e.trans h1)]; rfl)
  | not h a ha h1 _ =>
    have e := hev a (by rw [ha]; simp) (by omega)
    rw [ev_not h ha, ha]
    have hk := Ev.k_bool (e.trans h1)
    refine .not (a.ev env).k h rfl ?_ ?_
    · rw [hk]; cases (a.ev env).b <;> simp
    · rw [hk]; cases (a.ev env).b <;> rfl
  | ints h a b ha h1 h2 _ =>
    have e1 := Ev.of_1 ((hev a (by rw [ha]; simp) (by omega)).trans h1)
    have e2 := Ev.of_1 ((hev b (by rw [ha]; simp) (by omega)).trans h2)
    rw [ev_two (by omega) ha, ha]
    simp only [List.map_cons, List.map_nil]
    rw [e1, e2]
    generalize (a.ev env).n = p
    generalize (b.ev env).n = q
    simp only [Ev.k, evTwo]
    rcases h with h | h | h | h | h | h | h | h | h
    · refine .add p q h rfl ?_; rw [h]; rfl
    · refine .sub p q h rfl ?_; rw [h]; rfl
    · refine .mul p q h rfl ?_; rw [h]; rfl
    · by_cases hq : q = 0
      · refine .div0 p q h rfl hq ?_; rw [h, evInts_z 10 p q (.inl rfl) hq]
      · refine .div p q h rfl hq ?_; rw [h, evInts_10 p q hq]
    · by_cases hq : q = 0
      · refine .mod0 p q h rfl hq ?_; rw [h, evInts_z 11 p q (.inr rfl) hq]
      · refine .mod p q h rfl hq ?_; rw [h, evInts_11 p q hq]
    · refine .less p q h rfl ?_; rw [h]; rfl
    · refine .leq p q h rfl ?_; rw [h]; rfl
    · refine .eq p q h rfl ?_; rw [h]; rfl
    · refine .ne p q h rfl ?_; rw [h]; rfl
  | bools h a b ha h1 h2 _ =>
    have e1 := Ev.of_2 ((hev a (by rw [ha]; simp) (by omega)).trans h1)
    have e2 := Ev.of_2 ((hev b (by rw [ha]; simp) (by omega)).trans h2)
    rw [ev_two (by omega) ha, ha]
    simp only [List.map_cons, List.map_nil]
    rw [e1, e2]
    generalize (a.ev env).b = p
    generalize (b.ev env).b = q
    simp only [Ev.k, evTwo]
    rcases h with h | h | h | h
    · refine .eq _ _ h rfl ?_; rw [h]; cases p <;> cases q <;> rfl
    · refine .ne _ _ h rfl ?_; rw [h]; cases p <;> cases q <;> rfl
    · refine .and _ _ h rfl ?_ ?_ ?_
      · cases p <;> simp
      · cases q <;> simp
      · rw [h]; cases p <;> cases q <;> rfl
    · refine .or _ _ h rfl ?_ ?_ ?_
      · cases p <;> simp
      · cases q <;> simp
      · rw [h]; cases p <;> cases q <;> rfl
  | cond h a b c ha h1 h2 _ =>
    have e := hev a (by rw [ha]; simp) (by omega)
    rw [ev_cond h ha, ha]
    have hk := Ev.k_bool (e.trans h1)
    refine .cond (a.ev env).k (b.ev env).k (c.ev env).k h rfl ?_
    rw [hk]
    cases (a.ev env).b <;> rfl

end Go.Proofs.Ytfieoehchghiiaa
