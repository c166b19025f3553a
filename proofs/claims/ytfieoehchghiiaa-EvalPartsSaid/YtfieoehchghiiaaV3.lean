/-
  What an expression comes to is of its type (plain).
-/
import Derived.Test.YtfieoehchghiiaaV2
import Derived.Test.YtfieoehchghiiaaQ7
namespace Go.Proofs.Ytfieoehchghiiaa
open Go.RowKit
set_option linter.unusedVariables false

theorem Ev.of_1 {e : Ev} (h : e.ty = 1) : e = .int e.n := by cases e <;> simp_all [Ev.ty, Ev.n]
theorem Ev.of_2 {e : Ev} (h : e.ty = 2) : e = .bool e.b := by cases e <;> simp_all [Ev.ty, Ev.b]

/-- The parts of an expression that has a type, by its Op. -/
inductive Typed (x : Ex) : Prop
  | leaf (h : x.op = 1 ∨ x.op = 2 ∨ x.op = 3 ∨ x.op = 4) (ha : x.args = []) (ht : x.ty = 1) : Typed x
  | neg (h : x.op = 5) (a : Ex) (ha : x.args = [a]) (h1 : a.ty = 1) (ht : x.ty = 1) : Typed x
  | not (h : x.op = 6) (a : Ex) (ha : x.args = [a]) (h1 : a.ty = 2) (ht : x.ty = 2) : Typed x
  | ints (h : x.op = 7 ∨ x.op = 8 ∨ x.op = 9 ∨ x.op = 10 ∨ x.op = 11 ∨ x.op = 12 ∨ x.op = 13 ∨ x.op = 14 ∨ x.op = 15) (a b : Ex) (ha : x.args = [a, b]) (h1 : a.ty = 1) (h2 : b.ty = 1) (ht : x.ty = if x.op ≤ 11 then 1 else 2) : Typed x
  | bools (h : x.op = 14 ∨ x.op = 15 ∨ x.op = 16 ∨ x.op = 17) (a b : Ex) (ha : x.args = [a, b]) (h1 : a.ty = 2) (h2 : b.ty = 2) (ht : x.ty = 2) : Typed x
  | cond (h : x.op = 18) (a b c : Ex) (ha : x.args = [a, b, c]) (h1 : a.ty = 2) (h2 : b.ty = c.ty) (ht : x.ty = b.ty) : Typed x

theorem len_two {l : List Ex} (h : l.length = 2) : ∃ a b, l = [a, b] := by
  match l, h with
  | [a, b], _ => exact ⟨a, b, rfl⟩
theorem len_three {l : List Ex} (h : l.length = 3) : ∃ a b c, l = [a, b, c] := by
  match l, h with
  | [a, b, c], _ => exact ⟨a, b, c, rfl⟩
theorem ty12 (x : Ex) (h : x.ty ≠ 0) : x.ty = 1 ∨ x.ty = 2 := by
  rcases Ex.ty_vals x with h0 | h0
  · exact absurd h0 h
  · exact h0

theorem typed_of {k : Nat} {x : Ex} (hok : x.ok) (hm : mayB (k + 1) x = true) (ht : x.ty ≠ 0) : Typed x := by
  simp only [mayB, Bool.and_eq_true] at hm
  have hs := of_decide_eq_true hm.1
  have hr := manyN_range hs.1 (Ex.ok_op hok).1
  have hty := ty_ref hr.1 hr.2 hs.1
  have hta := Ex.ty_args ht
  have hany : (x.args.map Ex.ty).any (· == 0) = false := by
    rw [List.any_eq_false]
    intro t h1
    obtain ⟨a, ha, rfl⟩ := List.mem_map.1 h1
    simpa using hta a ha
  have hmany := hs.1
  have hops : (x.op = 1 ∨ x.op = 2 ∨ x.op = 3 ∨ x.op = 4) ∨ x.op = 5 ∨ x.op = 6 ∨ (x.op = 7 ∨ x.op = 8 ∨ x.op = 9 ∨ x.op = 10 ∨ x.op = 11) ∨ (x.op = 12 ∨ x.op = 13) ∨ (x.op = 14 ∨ x.op = 15) ∨ (x.op = 16 ∨ x.op = 17) ∨ x.op = 18 := by omega
  have hlen : ∀ n : Nat, manyN x.op = n → x.args.length = n := fun n h => by omega
  rcases hops with h | h | h | h | h | h | h | h
  · have hl := hlen 0 (by rcases h with h | h | h | h <;> rw [h] <;> decide)
    exact .leaf h (List.length_eq_zero_iff.1 hl) (by rw [hty, refTy_num h _ hany])
  · have hl := hlen 1 (by rw [h]; decide)
    obtain ⟨a, ha⟩ := List.length_eq_one_iff.1 hl
    rw [ha] at hty hany hta
    rw [refTy_a (by omega) _ hany] at hty
    simp only [List.map_cons, List.map_nil, allGo] at hty
    by_cases h1 : a.ty = 1
    · exact .neg h a ha h1 (by rw [hty, h1]; decide)
    · exact absurd (by rw [hty]; simpa using h1) ht
  · have hl := hlen 1 (by rw [h]; decide)
    obtain ⟨a, ha⟩ := List.length_eq_one_iff.1 hl
    rw [ha] at hty hany hta
    rw [refTy_b (by omega) _ hany] at hty
    simp only [List.map_cons, List.map_nil, allGo] at hty
    by_cases h1 : a.ty = 2
    · exact .not h a ha h1 (by rw [hty, h1]; decide)
    · exact absurd (by rw [hty]; simpa using h1) ht
  · have hl := hlen 2 (by rcases h with h | h | h | h | h <;> rw [h] <;> decide)
    obtain ⟨a, b, ha⟩ := len_two hl
    rw [ha] at hty hany hta
    rw [refTy_a (by omega) _ hany] at hty
    simp only [List.map_cons, List.map_nil, allGo] at hty
    rcases ty12 a (hta a (by simp)) with h1 | h1 <;> rcases ty12 b (hta b (by simp)) with h2 | h2 <;> rw [h1, h2] at hty
    · exact .ints (by omega) a b ha h1 h2 (by rw [if_pos (show x.op ≤ 11 by omega)]; exact hty.trans (by decide))
    all_goals exact absurd (by rw [hty]; decide) ht
  · have hl := hlen 2 (by rcases h with h | h <;> rw [h] <;> decide)
    obtain ⟨a, b, ha⟩ := len_two hl
    rw [ha] at hty hany hta
    rw [refTy_c (by omega) _ hany] at hty
    simp only [List.map_cons, List.map_nil, allGo] at hty
    rcases ty12 a (hta a (by simp)) with h1 | h1 <;> rcases ty12 b (hta b (by simp)) with h2 | h2 <;> rw [h1, h2] at hty
    · exact .ints (by omega) a b ha h1 h2 (by rw [if_neg (show ¬ x.op ≤ 11 by omega)]; exact hty.trans (by decide))
    all_goals exact absurd (by rw [hty]; decide) ht
  · have hl := hlen 2 (by rcases h with h | h <;> rw [h] <;> decide)
    obtain ⟨a, b, ha⟩ := len_two hl
    rw [ha] at hty hany hta
    rw [refTy_d (by omega) _ hany] at hty
    simp only [List.map_cons, List.map_nil, allGo] at hty
    rcases ty12 a (hta a (by simp)) with h1 | h1 <;> rcases ty12 b (hta b (by simp)) with h2 | h2 <;> rw [h1, h2] at hty
    · exact .ints (by omega) a b ha h1 h2 (by rw [if_neg (show ¬ x.op ≤ 11 by omega)]; exact hty.trans (by decide))
    · exact absurd (by rw [hty]; decide) ht
    · exact absurd (by rw [hty]; decide) ht
    · exact .bools (by omega) a b ha h1 h2 (by rw [hty]; decide)
  · have hl := hlen 2 (by rcases h with h | h <;> rw [h] <;> decide)
    obtain ⟨a, b, ha⟩ := len_two hl
    rw [ha] at hty hany hta
    rw [refTy_b (by omega) _ hany] at hty
    simp only [List.map_cons, List.map_nil, allGo] at hty
    rcases ty12 a (hta a (by simp)) with h1 | h1 <;> rcases ty12 b (hta b (by simp)) with h2 | h2 <;> rw [h1, h2] at hty
    · exact absurd (by rw [hty]; decide) ht
    · exact absurd (by rw [hty]; decide) ht
    · exact absurd (by rw [hty]; decide) ht
    · exact .bools (by omega) a b ha h1 h2 (by rw [hty]; decide)
  · have hl := hlen 3 (by rw [h]; decide)
    obtain ⟨a, b, c, ha⟩ := len_three hl
    rw [ha] at hty hany hta
    rw [refTy_e h _ hany] at hty
    simp only [List.map_cons, List.map_nil, List.getD_cons_zero, List.getD_cons_succ, beq_iff_eq] at hty
    by_cases h1 : a.ty = 2 ∧ b.ty = c.ty
    · rw [if_pos h1] at hty
      exact .cond h a b c ha h1.1 h1.2 hty
    · rw [if_neg h1] at hty
      exact absurd hty ht

theorem evInts_ty {op : Int} (h : op = 7 ∨ op = 8 ∨ op = 9 ∨ op = 10 ∨ op = 11 ∨ op = 12 ∨ op = 13 ∨ op = 14 ∨ op = 15) (a b : Int) : (evInts op a b).ty = if op ≤ 11 then 1 else 2 := by
  rcases h with rfl | rfl | rfl | rfl | rfl | rfl | rfl | rfl | rfl
  all_goals
    first
    | rfl
    | (by_cases hb : b = 0
       · rw [evInts_z _ _ _ (by omega) hb]; rfl
       · first
         | (rw [evInts_10 a b hb]; rfl)
         | (rw [evInts_11 a b hb]; rfl))

/-- What an expression comes to, by its Op. -/
theorem ev_leaf {x : Ex} {env : Env} (h : x.op = 1 ∨ x.op = 2 ∨ x.op = 3 ∨ x.op = 4) : x.ev env = .int (if x.op = 1 then x.n else if x.op = 2 then env.key else if x.op = 3 then env.val else env.acc) := by
  rw [Ex.ev_eq]
  unfold evOp
  rcases h with h | h | h | h <;> rw [h] <;> simp
theorem ev_neg {x a : Ex} {env : Env} (h : x.op = 5) (ha : x.args = [a]) : x.ev env = .int (wrap64 (-(a.ev env).n)) := by
  rw [Ex.ev_eq, ha, h]
  simp [evOp]
theorem ev_not {x a : Ex} {env : Env} (h : x.op = 6) (ha : x.args = [a]) : x.ev env = .bool (!(a.ev env).b) := by
  rw [Ex.ev_eq, ha, h]
  simp [evOp]
theorem ev_two {x a b : Ex} {env : Env} (h : 7 ≤ x.op ∧ x.op ≤ 17) (ha : x.args = [a, b]) : x.ev env = evTwo x.op (a.ev env) (b.ev env) := by
  rw [Ex.ev_eq, ha]
  unfold evOp
  rw [if_neg (by omega), if_neg (by omega), if_neg (by omega), if_neg (by omega), if_neg (by omega), if_neg (by omega), if_neg (by omega)]
  simp
theorem ev_cond {x a b c : Ex} {env : Env} (h : x.op = 18) (ha : x.args = [a, b, c]) : x.ev env = if (a.ev env).b then b.ev env else c.ev env := by
  rw [Ex.ev_eq, ha, h]
  simp [evOp]

theorem ev_ty (env : Env) : ∀ (k : Nat) (x : Ex), x.ok → mayB k x = true → x.ty ≠ 0 → (x.ev env).ty = x.ty
  | 0, x, _, h, _ => by simp [mayB] at h
  | k + 1, x, hok, hm, ht => by
    have hargs : ∀ a ∈ x.args, a.ok ∧ mayB k a = true := by
      intro a ha
      simp only [mayB, Bool.and_eq_true, List.all_eq_true] at hm
      refine ⟨?_, hm.2 a ha⟩
      obtain ⟨j, hj, rfl⟩ := List.getElem_of_mem ha
      exact Exs.ok_at x.args (Ex.ok_args hok) j hj
    cases typed_of hok hm ht with
    | leaf h ha ht' => rw [ev_leaf h, ht']; rfl
    | neg h a ha h1 ht' => rw [ev_neg h ha, ht']; rfl
    | not h a ha h1 ht' => rw [ev_not h ha, ht']; rfl
    | ints h a b ha h1 h2 ht' =>
      have e1 := ev_ty env k a (hargs a (by simp [ha])).1 (hargs a (by simp [ha])).2 (by rw [h1]; decide)
      have e2 := ev_ty env k b (hargs b (by simp [ha])).1 (hargs b (by simp [ha])).2 (by rw [h2]; decide)
      rw [h1] at e1
      rw [h2] at e2
      rw [ev_two (by omega) ha, Ev.of_1 e1, Ev.of_1 e2, ht']
      exact evInts_ty h _ _
    | bools h a b ha h1 h2 ht' =>
      have e1 := ev_ty env k a (hargs a (by simp [ha])).1 (hargs a (by simp [ha])).2 (by rw [h1]; decide)
      have e2 := ev_ty env k b (hargs b (by simp [ha])).1 (hargs b (by simp [ha])).2 (by rw [h2]; decide)
      rw [h1] at e1
      rw [h2] at e2
      rw [ev_two (by omega) ha, Ev.of_2 e1, Ev.of_2 e2, ht']
      rfl
    | cond h a b c ha h1 h2 ht' =>
      have hb0 : b.ty ≠ 0 := by rw [← ht']; exact ht
      have e1 := ev_ty env k b (hargs b (by simp [ha])).1 (hargs b (by simp [ha])).2 hb0
      have e2 := ev_ty env k c (hargs c (by simp [ha])).1 (hargs c (by simp [ha])).2 (by rw [← h2]; exact hb0)
      rw [ev_cond h ha, ht']
      split
      · exact e1
      · rw [e2, h2]

end Go.Proofs.Ytfieoehchghiiaa
