/-
  Plain laws for JobPars.
-/
import Derived.Test.YtfieoehchghiiaaJ14
import Derived.Test.YtfieoehchghiiaaJ6
namespace Go.Proofs.Ytfieoehchghiiaa
open Go.RowKit
set_option linter.unusedVariables false

theorem st2_congr {j j' : Jb} (h1 : j'.nodes.length = j.nodes.length) (h2 : ∀ k : Int, j'.readers k = j.readers k) : ∀ (l : List Nd) (k : Nat) (f : Int) (ws : List Int), st2 j' l k f ws = st2 j l k f ws
  | [], _, _, _ => rfl
  | d :: l, k, f, ws => by
    have hb : badB j' d k (flatN d f) (wayN d ws) = badB j d k (flatN d f) (wayN d ws) := by
      unfold badB
      rw [h1, h2]
    simp only [st2]
    rw [hb, st2_congr h1 h2 l]

/-- Of a job that may be another Par: by its bounds alone. -/
theorem pars_par {j : Jb} (h : j.may.2 = 0) (p : Int) : ((⟨p, j.nodes⟩ : Jb).may.2 = 0) ↔ (1 ≤ p ∧ p ≤ 4) := by
  have g := may_good j h
  constructor
  · intro h2
    have g2 := may_good _ h2
    exact ⟨g2.p1, g2.p2⟩
  · rintro ⟨h1, h2⟩
    have : (⟨p, j.nodes⟩ : Jb).Good := ⟨h1, h2, g.n1, g.n2, g.pa, g.s1, (st2_congr (j := j) (j' := ⟨p, j.nodes⟩) rfl (fun _ => rfl) _ _ _ _).trans g.s2⟩
    rw [good_may _ this]

theorem twice_iff : ∀ (l s : List ByteArray), twiceGo (fun x y => decide (x = y)) s l = false ↔ (∀ y ∈ l, y ∉ s) ∧ l.Nodup
  | [], s => by simp [twiceGo]
  | x :: l, s => by
    simp only [twiceGo, Bool.or_eq_false_iff]
    rw [twice_iff l]
    constructor
    · rintro ⟨h1, h2, h3⟩
      refine ⟨?_, List.nodup_cons.2 ⟨fun hx => (h2 x hx) (by simp), h3⟩⟩
      intro y hy hs
      rcases List.mem_cons.1 hy with rfl | hy
      · have := List.any_eq_false.1 h1 y hs
        simp at this
      · exact h2 y hy (by simp [hs])
    · rintro ⟨h1, h2⟩
      obtain ⟨h3, h4⟩ := List.nodup_cons.1 h2
      refine ⟨?_, ?_, h4⟩
      · rw [List.any_eq_false]
        intro y hy
        simp only [decide_eq_true_eq]
        rintro rfl
        exact h1 x (by simp) hy
      · intro y hy hs
        rcases List.mem_append.1 hs with hs | hs
        · exact h1 y (by simp [hy]) hs
        · simp at hs
          subst hs
          exact h3 hy
theorem twiceB_iff (l : List ByteArray) : twiceB (fun x y => decide (x = y)) l = false ↔ l.Nodup := by
  unfold twiceB
  rw [twice_iff]
  simp
theorem st1_of : ∀ (l : List Nd) (k : Nat) (us : List ByteArray), (∀ i (h : i < l.length), nodeB (l[i]'h) ((k + i : Nat) : Int) = true) → (us ++ l.map (·.uid)).Nodup → st1 l k us = none
  | [], _, _, _, _ => rfl
  | d :: l, k, us, h1, h2 => by
    have hd := h1 0 (by simp)
    simp only [List.getElem_cons_zero, Nat.add_zero] at hd
    have e : us ++ (d :: l).map (·.uid) = (us ++ [d.uid]) ++ l.map (·.uid) := by simp
    rw [e] at h2
    have h3 := (List.nodup_append.1 h2).1
    simp only [st1]
    rw [hd, (twiceB_iff _).2 h3]
    simp only [cond_true, cond_false]
    refine st1_of l (k + 1) _ (fun i hi => ?_) h2
    have := h1 (i + 1) (by simpa using hi)
    simpa [Nat.add_assoc, Nat.add_comm 1] using this

/-- Another name for the first node, that no node has. -/
def Jb.named (j : Jb) (u : ByteArray) : Jb := ⟨j.par, match j.nodes with | [] => [] | d :: l => { d with uid := u } :: l⟩
theorem pars_named {j : Jb} (h : j.may.2 = 0) (u : ByteArray) (hu : nameB u = true) (hf : j.find u < 0) : (j.named u).may.2 = 0 ∧ j.sameB (j.named u) = false := by
  have g := may_good j h
  obtain ⟨p, nodes⟩ := j
  cases nodes with
  | nil => have := g.n1; simp at this
  | cons d l =>
    have hnone : ∀ e ∈ d :: l, e.uid ≠ u := by
      intro e he heq
      have h1 : (d :: l).any (fun d : Nd => decide (d.uid = u)) = true := List.any_eq_true.2 ⟨e, he, by simpa using heq⟩
      have h2 := (idxZ_nonneg (fun d : Nd => decide (d.uid = u)) (d :: l) 0).2 h1
      unfold Jb.find at hf
      dsimp only at hf
      omega
    have hn := g.node
    dsimp only at hn
    have hnd := st1_twice (d :: l) 0 [] g.s1 (by simp)
    rw [List.nil_append, twiceB_iff, List.map_cons, List.nodup_cons] at hnd
    have g2 : (Jb.named ⟨p, d :: l⟩ u).Good := by
      refine ⟨g.p1, g.p2, g.n1, g.n2, g.pa, ?_, ?_⟩
      · refine st1_of _ _ _ (fun i hi => ?_) ?_
        · cases i with
          | zero =>
            have := hn 0 (by simp)
            simp only [List.getElem_cons_zero] at this
            show nodeB { d with uid := u } _ = true
            unfold nodeB at this ⊢
            dsimp only
            rw [hu]
            rw [Bool.and_eq_true] at this
            rw [Bool.true_and]
            exact this.2
          | succ i =>
            have hi' : i + 1 < (d :: l).length := by
              have : (Jb.named ⟨p, d :: l⟩ u).nodes.length = (d :: l).length := rfl
              omega
            have := hn (i + 1) hi'
            simpa [Jb.named] using this
        · show ([] ++ (u :: l.map Nd.uid)).Nodup
          rw [List.nil_append, List.nodup_cons]
          refine ⟨?_, hnd.2⟩
          intro hm
          obtain ⟨e, he, hue⟩ := List.mem_map.1 hm
          exact hnone e (by simp [he]) hue
      · have e1 : st2 (Jb.named ⟨p, d :: l⟩ u) (Jb.named ⟨p, d :: l⟩ u).nodes 0 0 [] = st2 ⟨p, d :: l⟩ (Jb.named ⟨p, d :: l⟩ u).nodes 0 0 [] := st2_congr (j := ⟨p, d :: l⟩) (j' := Jb.named ⟨p, d :: l⟩ u) rfl (fun _ => rfl) _ _ _ _
        rw [e1]
        exact g.s2
    refine ⟨by rw [good_may _ g2], ?_⟩
    show (p == p && (Nd.sameB d { d with uid := u } && Nds.sameB l l)) = false
    have : Nd.sameB d { d with uid := u } = false := by
      unfold Nd.sameB
      dsimp only
      rw [decide_eq_false (hnone d (by simp)), Bool.false_and]
    rw [this, Bool.false_and, Bool.and_false]

end Go.Proofs.Ytfieoehchghiiaa
