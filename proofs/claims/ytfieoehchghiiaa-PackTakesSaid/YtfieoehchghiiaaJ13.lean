/-
  Plain laws on jobs that may be; the walk of JobCounts.
-/
import Derived.Test.YtfieoehchghiiaaJ11
import Derived.Test.YtfieoehchghiiaaJ1
namespace Go.Proofs.Ytfieoehchghiiaa
open Go.RowKit
set_option linter.unusedVariables false

theorem st1_err : ∀ (l : List Nd) (k : Nat) (us : List ByteArray) (r : Int × Int), st1 l k us = some r → r.2 ≠ 0
  | d :: l, k, us, r, h => by
    simp only [st1] at h
    cases hn : nodeB d k
    · rw [hn] at h; simp only [cond_false, Option.some.injEq] at h; subst h; simp
    · rw [hn] at h
      cases ht : twiceB (fun x y => decide (x = y)) (us ++ [d.uid])
      · rw [ht] at h
        exact st1_err l (k + 1) _ r h
      · rw [ht] at h; simp only [cond_true, Option.some.injEq] at h; subst h; simp
theorem st2_err (j : Jb) : ∀ (l : List Nd) (k : Nat) (f : Int) (ws : List Int) (r : Int × Int), st2 j l k f ws = some r → r.2 ≠ 0
  | d :: l, k, f, ws, r, h => by
    simp only [st2] at h
    cases hn : badB j d k (flatN d f) (wayN d ws)
    · rw [hn] at h; exact st2_err j l (k + 1) _ _ r h
    · rw [hn] at h; simp only [cond_true, Option.some.injEq] at h; subst h; simp
/-- A job that may be. -/
structure Jb.Good (j : Jb) : Prop where
  p1 : 1 ≤ j.par
  p2 : j.par ≤ 4
  n1 : 2 ≤ j.nodes.length
  n2 : j.nodes.length ≤ 12
  pa : j.parts ≤ 1000
  s1 : st1 j.nodes 0 [] = none
  s2 : st2 j j.nodes 0 0 [] = none
theorem may_good (j : Jb) (h : j.may.2 = 0) : j.Good := by
  rcases argB_cases j with ⟨hr, _⟩ | ⟨hr, h1, h2, h3, h4, h5⟩
  · rw [may_len j h] at hr; cases hr
  · unfold Jb.may at h
    rw [if_neg (by rw [hr]; simp)] at h
    cases e1 : st1 j.nodes 0 [] with
    | some r => rw [e1] at h; exact (st1_err _ _ _ _ e1 h).elim
    | none =>
      rw [e1] at h
      cases e2 : st2 j j.nodes 0 0 [] with
      | some r => simp only [e2] at h; exact (st2_err _ _ _ _ _ _ e2 h).elim
      | none => exact ⟨h1, h2, h3, h4, h5, e1, e2⟩
theorem good_may (j : Jb) (h : j.Good) : j.may = (0, 0) := by
  rcases argB_cases j with ⟨hr, hc⟩ | ⟨hr, _⟩
  · have := h.p1; have := h.p2; have := h.n1; have := h.n2; have := h.pa
    omega
  · unfold Jb.may
    rw [if_neg (by rw [hr]; simp), h.s1]
    simp only [h.s2]
theorem Jb.Good.node {j : Jb} (h : j.Good) (i : Nat) (hi : i < j.nodes.length) : nodeB (j.nodes[i]'hi) (i : Int) = true := by
  have := st1_node j.nodes 0 [] h.s1 i hi
  simpa using this
theorem Jb.rds_good {j : Jb} (h : j.Good) (at_ : Int) : j.rds at_ = j.readers at_ := by
  unfold Jb.rds
  rw [good_may j h]
  rfl

def sumTo (f : Nat → Nat) : Nat → Nat
  | 0 => 0
  | n + 1 => sumTo f n + f n
theorem sumTo_add (f g : Nat → Nat) : ∀ n, sumTo (fun i => f i + g i) n = sumTo f n + sumTo g n
  | 0 => rfl
  | n + 1 => by simp only [sumTo]; rw [sumTo_add f g n]; omega
theorem sumTo_zero : ∀ n, sumTo (fun _ => 0) n = 0
  | 0 => rfl
  | n + 1 => by simp only [sumTo]; rw [sumTo_zero n]
theorem sumTo_congr {f g : Nat → Nat} : ∀ n, (∀ i, i < n → f i = g i) → sumTo f n = sumTo g n
  | 0, _ => rfl
  | n + 1, h => by simp only [sumTo]; rw [sumTo_congr n (fun i hi => h i (by omega)), h n (by omega)]
theorem sumTo_one (z : Nat) : ∀ n, z < n → sumTo (fun i => if i = z then 1 else 0) n = 1
  | n + 1, h => by
    simp only [sumTo]
    by_cases e : z = n
    · subst e
      rw [if_pos rfl, sumTo_congr z (g := fun _ => 0) (fun i hi => if_neg (by omega)), sumTo_zero]
    · rw [sumTo_one z n (by omega), if_neg (fun h => e h.symm)]

def hitN (ins : List Int) (i : Nat) : Nat := if ins.any (fun y => (i : Int) == y) then 1 else 0
theorem hit_snoc (s : List Int) (x : Int) (n : Nat) (hx : 0 ≤ x ∧ x < (n : Int)) (hs : s.any (fun y => x == y) = false) : sumTo (hitN (s ++ [x])) n = sumTo (hitN s) n + 1 := by
  obtain ⟨z, rfl⟩ : ∃ z : Nat, x = z := ⟨x.toNat, by omega⟩
  rw [← sumTo_one z n (by omega), ← sumTo_add]
  refine sumTo_congr n (fun i _ => ?_)
  unfold hitN
  rw [List.any_append]
  by_cases e : i = z
  · subst e
    simp only [hs]
    simp
  · rw [if_neg e]
    have : ((i : Int) == (z : Int)) = false := by simpa using fun h => e (by omega)
    simp [this]
theorem hits_go (n : Nat) : ∀ (l s : List Int), twiceGo (fun x y => x == y) s l = false → (∀ z ∈ l, 0 ≤ z ∧ z < (n : Int)) → sumTo (hitN (s ++ l)) n = sumTo (hitN s) n + l.length
  | [], s, _, _ => by simp
  | x :: l, s, h, hr => by
    simp only [twiceGo, Bool.or_eq_false_iff] at h
    have e := hits_go n l (s ++ [x]) h.2 (fun z hz => hr z (by simp [hz]))
    rw [List.append_assoc, List.singleton_append] at e
    rw [e, hit_snoc s x n (hr x (by simp)) h.1, List.length_cons]
    omega
theorem hits_all (n : Nat) (l : List Int) (h : twiceB (fun x y => x == y) l = false) (hr : ∀ z ∈ l, 0 ≤ z ∧ z < (n : Int)) : sumTo (hitN l) n = l.length := by
  have := hits_go n l [] h hr
  rw [List.nil_append] at this
  rw [this, show sumTo (hitN []) n = 0 from by rw [sumTo_congr (f := hitN []) (g := fun _ => 0) n (fun i _ => rfl), sumTo_zero]]
  omega

theorem readersGo_cons (at_ : Int) (d : Nd) (l : List Nd) (k : Nat) : (readersGo at_ (d :: l) k).length = (if d.ins.any (fun y => at_ == y) then 1 else 0) + (readersGo at_ l (k + 1)).length := by
  simp only [readersGo]
  cases d.ins.any (fun y => at_ == y)
  · simp
  · simp only [cond_true, List.length_cons, if_true]; omega
theorem readersGo_len (at_ : Int) : ∀ (l : List Nd) (k m : Nat), (readersGo at_ l k).length = (readersGo at_ l m).length
  | [], _, _ => rfl
  | d :: l, k, m => by rw [readersGo_cons, readersGo_cons, readersGo_len at_ l (k + 1) (m + 1)]
def sumIns : List Nd → Nat
  | [] => 0
  | d :: l => d.ins.length + sumIns l
theorem both_ways (n : Nat) : ∀ l : List Nd, (∀ d ∈ l, twiceB (fun x y => x == y) d.ins = false ∧ ∀ z ∈ d.ins, 0 ≤ z ∧ z < (n : Int)) → sumTo (fun i => (readersGo (i : Int) l 0).length) n = sumIns l
  | [], _ => (sumTo_congr (f := fun i => (readersGo (i : Int) [] 0).length) (g := fun _ => 0) n (fun i _ => rfl)).trans (sumTo_zero n)
  | d :: l, h => by
    have e : sumTo (fun i => (readersGo (i : Int) (d :: l) 0).length) n = sumTo (fun i => hitN d.ins i + (readersGo (i : Int) l 0).length) n :=
      sumTo_congr n (fun i _ => by rw [readersGo_cons, readersGo_len _ l (0 + 1) 0]; rfl)
    rw [e, sumTo_add, hits_all n d.ins (h d (by simp)).1 (h d (by simp)).2, both_ways n l (fun d' hd => h d' (by simp [hd]))]
    rfl
theorem readers_none (at_ : Int) : ∀ (l : List Nd) (k : Nat), (∀ d ∈ l, ∀ z ∈ d.ins, at_ ≠ z) → readersGo at_ l k = []
  | [], _, _ => rfl
  | d :: l, k, h => by
    have : d.ins.any (fun y => at_ == y) = false := by
      rw [List.any_eq_false]
      intro z hz
      simpa using h d (by simp) z hz
    simp only [readersGo, this]
    exact readers_none at_ l (k + 1) (fun d' hd => h d' (by simp [hd]))

theorem nodeB_tw (d : Nd) (k : Nat) (h : nodeB d k = true) : twiceB (fun x y => x == y) d.ins = false := by
  rcases nodeB_cases d k with ⟨_, hr⟩ | ⟨_, _, hr⟩ | ⟨_, _, _, hr⟩ | ⟨_, _, _, _, hr⟩ | ⟨_, _, _, _, _, hr⟩ | ⟨_, _, _, _, _, _, hr⟩ | ⟨_, _, _, _, _, _, _, hr⟩ | ⟨_, _, _, _, _, _, _, _, hr⟩ | ⟨_, _, _, _, _, _, _, _, _, hr⟩ | ⟨h1, h2, h3, h4, h5, h6, h7, h8⟩ | ⟨h1, h2, h3, h4, h5, h6, h7, h8⟩
  all_goals first
    | (rw [h] at hr; cases hr)
    | exact h6
theorem Jb.Good.ins {j : Jb} (h : j.Good) : ∀ d ∈ j.nodes, twiceB (fun x y => x == y) d.ins = false ∧ ∀ z ∈ d.ins, 0 ≤ z ∧ z < (j.nodes.length : Int) := by
  intro d hd
  obtain ⟨i, hi, rfl⟩ := List.mem_iff_getElem.1 hd
  have hn := h.node i hi
  refine ⟨nodeB_tw _ _ hn, fun z hz => ?_⟩
  have := (nodeB_in _ _ hn).2.2.2 z hz
  omega
theorem Jb.Good.counts {j : Jb} (h : j.Good) : sumTo (fun i => (j.readers (i : Int)).length) j.nodes.length = sumIns j.nodes := both_ways _ _ h.ins
theorem Jb.Good.out1 {j : Jb} (h : j.Good) : j.readers (-1) = [] := readers_none _ _ _ (fun d hd z hz => by have := (h.ins d hd).2 z hz; omega)
theorem Jb.Good.out2 {j : Jb} (h : j.Good) : j.readers (j.nodes.length : Int) = [] := readers_none _ _ _ (fun d hd z hz => by have := (h.ins d hd).2 z hz; omega)
theorem readers_le (j : Jb) (at_ : Int) : (j.readers at_).length ≤ j.nodes.length := by
  unfold Jb.readers
  have : ∀ (l : List Nd) (k : Nat), (readersGo at_ l k).length ≤ l.length := by
    intro l
    induction l with
    | nil => simp [readersGo]
    | cons d l ih =>
      intro k
      rw [readersGo_cons]
      have := ih (k + 1)
      simp only [List.length_cons]
      split <;> omega
  exact this _ _

end Go.Proofs.Ytfieoehchghiiaa
