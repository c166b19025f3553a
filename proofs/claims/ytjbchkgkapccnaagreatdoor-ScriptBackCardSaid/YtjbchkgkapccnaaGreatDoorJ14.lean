/-
  Plain laws for JobWhole.
-/
import Derived.Test.YtjbchkgkapccnaaGreatDoorMJ
namespace Go.Proofs.YtjbchkgkapccnaaGreatDoor
open Go.RowKit
set_option linter.unusedVariables false

theorem st2_bad (j : Jb) : ∀ (l : List Nd) (k : Nat) (f : Int) (ws : List Int), st2 j l k f ws = none → ∀ i (h : i < l.length), ∃ f1 w1, badB j (l[i]'h) (k + i) f1 w1 = false
  | d :: l, k, f, ws, h, i, hi => by
    simp only [st2] at h
    cases hb : badB j d k (flatN d f) (wayN d ws)
    · rw [hb] at h
      cases i with
      | zero => exact ⟨_, _, hb⟩
      | succ i =>
        obtain ⟨f1, w1, h1⟩ := st2_bad j l (k + 1) _ _ h i (by simpa using hi)
        refine ⟨f1, w1, ?_⟩
        rw [show k + (i + 1) = k + 1 + i by omega]
        exact h1
    · rw [hb] at h; simp at h
/-- What is known of a node of a job that may be. -/
theorem Jb.Good.shape {j : Jb} (h : j.Good) (i : Nat) (hi : i < j.nodes.length) :
    ((j.nodes[i]'hi).kind = 1 ↔ i = 0) ∧ ((j.readers (i : Int)).length = 0 ↔ i + 1 = j.nodes.length) := by
  obtain ⟨f1, w1, hb⟩ := st2_bad j j.nodes 0 0 [] h.s2 i hi
  rw [Nat.zero_add] at hb
  rcases badB_cases j (j.nodes[i]'hi) i f1 w1 with ⟨hr, _⟩ | ⟨_, h1, h2, h3, _⟩
  · rw [hb] at hr; cases hr
  · have e1 : ((j.nodes[i]'hi).kind == 1) = ((i : Int) == 0) := by simpa using h1
    have e3 : (((j.readers (i : Int)).length : Int) == 0) = ((i : Int) == (j.nodes.length : Int) - 1) := by simpa using h3
    constructor
    · constructor
      · intro hk
        rw [hk] at e1
        have : ((i : Int) == 0) = true := e1.symm.trans (by decide)
        have : (i : Int) = 0 := by simpa using this
        omega
      · intro hk
        subst hk
        have : ((j.nodes[0]'hi).kind == 1) = true := e1.trans (by decide)
        simpa using this
    · constructor
      · intro hk
        rw [hk] at e3
        have : ((i : Int) == (j.nodes.length : Int) - 1) = true := e3.symm.trans (by decide)
        have : (i : Int) = (j.nodes.length : Int) - 1 := by simpa using this
        omega
      · intro hk
        have : ((i : Int) == (j.nodes.length : Int) - 1) = true := by simp; omega
        rw [this] at e3
        have : ((j.readers (i : Int)).length : Int) = 0 := by simpa using e3
        omega
theorem nodeB_some (d : Nd) (k : Nat) (h : nodeB d k = true) (hk : d.kind ≠ 1) : 0 < d.ins.length := by
  rcases nodeB_cases d k with ⟨_, hr⟩ | ⟨_, _, hr⟩ | ⟨_, _, _, hr⟩ | ⟨_, _, _, _, hr⟩ | ⟨_, _, _, _, _, hr⟩ | ⟨_, _, _, _, _, _, hr⟩ | ⟨_, _, _, _, _, _, _, hr⟩ | ⟨_, _, _, _, _, _, _, _, hr⟩ | ⟨_, _, _, _, _, _, _, _, _, hr⟩ | ⟨h1, h2, h3, h4, h5, h6, h7, h8⟩ | ⟨h1, h2, h3, h4, h5, h6, h7, h8⟩
  all_goals first
    | (rw [h] at hr; cases hr)
    | (have a4 : ¬ (d.ins.length : Int) < rLeast d.kind := by simpa using h4
       have : 1 ≤ rLeast d.kind := by
         unfold rLeast
         rw [if_neg hk]
         split <;> omega
       omega)

theorem readers_mem (at_ : Int) : ∀ (l : List Nd) (k : Nat) (z : Int), z ∈ readersGo at_ l k ↔ ∃ i, ∃ h : i < l.length, z = ((k + i : Nat) : Int) ∧ at_ ∈ (l[i]'h).ins
  | [], k, z => by simp [readersGo]
  | d :: l, k, z => by
    have ih := readers_mem at_ l (k + 1) z
    have hc : (z ∈ readersGo at_ (d :: l) k) ↔ (z = (k : Int) ∧ at_ ∈ d.ins) ∨ z ∈ readersGo at_ l (k + 1) := by
      simp only [readersGo]
      cases ha : d.ins.any (fun y => at_ == y)
      · have : ¬ at_ ∈ d.ins := fun hm => by
          have := List.any_eq_false.1 ha at_ hm
          simp at this
        simp [this]
      · have : at_ ∈ d.ins := by
          obtain ⟨y, hy, he⟩ := List.any_eq_true.1 ha
          have : at_ = y := by simpa using he
          rw [this]; exact hy
        simp [this]
    rw [hc, ih]
    constructor
    · rintro (⟨h1, h2⟩ | ⟨i, h, h1, h2⟩)
      · exact ⟨0, by simp, by simpa using h1, h2⟩
      · exact ⟨i + 1, by simpa using h, by rw [h1]; congr 1; omega, by simpa using h2⟩
    · rintro ⟨i, h, h1, h2⟩
      cases i with
      | zero => exact .inl ⟨by simpa using h1, by simpa using h2⟩
      | succ i => exact .inr ⟨i, by simpa using h, by rw [h1]; congr 1; omega, by simpa using h2⟩

/-- Those who read a node stand behind it. -/
theorem Jb.Good.behind {j : Jb} (h : j.Good) (i : Nat) (z : Int) (hz : z ∈ j.readers (i : Int)) : (i : Int) < z ∧ z < (j.nodes.length : Int) := by
  obtain ⟨k, hk, h1, h2⟩ := (readers_mem _ _ _ _).1 hz
  have := (nodeB_in _ _ (h.node k hk)).2.2.2 _ h2
  omega

/-- Behind the rounds ahead of i: what reads one of those is reached. -/
def Reach (j : Jb) (i : Nat) (F : List Bool) : Prop := F.length = j.nodes.length ∧ ∀ k (h : k < j.nodes.length), (k = 0 ∨ ∃ z ∈ (j.nodes[k]'h).ins, z < (i : Int)) → F[k]? = some true
theorem Reach.here {j : Jb} (hg : j.Good) {i : Nat} {F : List Bool} (h : Reach j i F) (hi : i < j.nodes.length) : F[i]? = some true := by
  refine h.2 i hi ?_
  by_cases h0 : i = 0
  · exact .inl h0
  · right
    have hn := hg.node i hi
    have hk : (j.nodes[i]'hi).kind ≠ 1 := fun e => h0 ((hg.shape i hi).1.1 e)
    have hl := nodeB_some _ _ hn hk
    have hm := List.getElem_mem hl
    exact ⟨_, hm, ((nodeB_in _ _ hn).2.2.2 _ hm).2⟩
theorem Reach.set {j : Jb} {i : Nat} {F : List Bool} (h : Reach j i F) (k : Nat) : Reach j i (F.set k true) := by
  refine ⟨by simpa using h.1, fun k' hk' hc => ?_⟩
  have := h.2 k' hk' hc
  rw [List.getElem?_set]
  split
  · split
    · rfl
    · have h1 := h.1; omega
  · exact this
theorem Reach.next {j : Jb} {i : Nat} {F : List Bool} (h : Reach j i F) (hr : ∀ z ∈ j.readers (i : Int), F[z.toNat]? = some true) : Reach j (i + 1) F := by
  refine ⟨h.1, fun k hk hc => ?_⟩
  rcases hc with hc | ⟨z, hz, hlt⟩
  · exact h.2 k hk (.inl hc)
  · by_cases e : z < (i : Int)
    · exact h.2 k hk (.inr ⟨z, hz, e⟩)
    · have e2 : z = (i : Int) := by omega
      subst e2
      have := hr (k : Int) ((readers_mem _ _ _ _).2 ⟨k, hk, by simp, hz⟩)
      simpa using this

theorem twice_find : ∀ (l : List Nd) (s : List ByteArray), twiceGo (fun x y => decide (x = y)) s (l.map (·.uid)) = false → ∀ i (h : i < l.length), (∀ u ∈ s, u ≠ (l[i]'h).uid) ∧ ∀ k, idxZ (fun d : Nd => decide (d.uid = (l[i]'h).uid)) l k = ((k + i : Nat) : Int)
  | d :: l, s, h, i, hi => by
    simp only [List.map_cons, twiceGo, Bool.or_eq_false_iff] at h
    obtain ⟨h1, h2⟩ := h
    cases i with
    | zero =>
      refine ⟨fun u hu e => ?_, fun k => by simp [idxZ]⟩
      have := List.any_eq_false.1 h1 u hu
      simp at this
      exact this (by simpa using e.symm)
    | succ i =>
      have ih := twice_find l (s ++ [d.uid]) h2 i (by simpa using hi)
      refine ⟨fun u hu => ?_, fun k => ?_⟩
      · simpa using ih.1 u (by simp [hu])
      · have hne : d.uid ≠ (l[i]'(by simpa using hi)).uid := ih.1 d.uid (by simp)
        have e := ih.2 (k + 1)
        simp only [idxZ, List.getElem_cons_succ]
        rw [show decide (d.uid = (l[i]'(by simpa using hi)).uid) = false from decide_eq_false hne, cond_false, e]
        congr 1; omega
theorem st1_twice : ∀ (l : List Nd) (k : Nat) (us : List ByteArray), st1 l k us = none → l ≠ [] → twiceB (fun x y => decide (x = y)) (us ++ l.map (·.uid)) = false
  | d :: l, k, us, h, _ => by
    simp only [st1] at h
    cases hn : nodeB d k
    · rw [hn] at h; simp at h
    · rw [hn] at h
      cases ht : twiceB (fun x y => decide (x = y)) (us ++ [d.uid])
      · rw [ht] at h
        simp only [cond_true, cond_false] at h
        by_cases hl : l = []
        · subst hl; simpa using ht
        · have := st1_twice l (k + 1) _ h hl
          rw [List.append_assoc, List.singleton_append] at this
          simpa using this
      · rw [ht] at h; simp at h
theorem Jb.Good.finds {j : Jb} (h : j.Good) (i : Nat) (hi : i < j.nodes.length) : j.find (j.nodes[i]'hi).uid = (i : Int) := by
  have hne : j.nodes ≠ [] := fun e => by have := h.n1; rw [e] at this; simp at this
  have ht := st1_twice j.nodes 0 [] h.s1 hne
  rw [List.nil_append] at ht
  have := (twice_find j.nodes [] ht i hi).2 0
  simpa [Jb.find] using this

end Go.Proofs.YtjbchkgkapccnaaGreatDoor
