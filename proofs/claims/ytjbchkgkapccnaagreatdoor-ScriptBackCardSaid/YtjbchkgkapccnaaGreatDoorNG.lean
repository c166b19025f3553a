/-
  Plain: lines that say nothing make no difference but to the numbers of lines.
-/
import Derived.Test.YtjbchkgkapccnaaGreatDoorMN
import Derived.Lib.Repeat
import Derived.Lib.IndexLaws
namespace Go.Proofs.YtjbchkgkapccnaaGreatDoor
open Go.RowKit
set_option linter.unusedVariables false

mutual
theorem Ex.same_reflN : ∀ x : Ex, x.sameB x = true
  | .mk o n l => by simp only [Ex.sameB]; rw [Exs.same_reflN l]; simp
theorem Exs.same_reflN : ∀ l : List Ex, Exs.sameB l l = true
  | [] => rfl
  | x :: l => by simp only [Exs.sameB]; rw [Ex.same_reflN x, Exs.same_reflN l]; rfl
end
theorem ints_reflN (l : List Int) : intsB l l = true := (intsB_iff _ _).2 rfl
theorem Nd.same_reflN (x : Nd) : x.sameB x = true := by
  unfold Nd.sameB
  rw [ints_reflN, Ex.same_reflN]
  simp
theorem Nds.same_reflN : ∀ l : List Nd, Nds.sameB l l = true
  | [] => rfl
  | x :: l => by simp only [Nds.sameB]; rw [Nd.same_reflN x, Nds.same_reflN l]; rfl
theorem Jb.same_reflN (x : Jb) : x.sameB x = true := by
  unfold Jb.sameB
  rw [Nds.same_reflN]
  simp

/-- A line '#..', n times, ahead of a text. -/
def hashL (r : ByteArray) : ByteArray := ({ data := #[35] } ++ r) ++ { data := #[10] }
def aheadN (r : ByteArray) : Nat → ByteArray → ByteArray
  | 0, s => s
  | n + 1, s => hashL r ++ aheadN r n s
theorem lines_ahead (r : ByteArray) (h : ∀ b ∈ r.data.toList, b ≠ 10) : ∀ (n : Nat) (s : ByteArray), linesB (aheadN r n s) = List.replicate n ({ data := #[35] } ++ r) ++ linesB s
  | 0, s => rfl
  | n + 1, s => by
    rw [aheadN, List.replicate_succ, List.cons_append, ← lines_ahead r h n s]
    exact lines_cons ({ data := #[35] } ++ r) (aheadN r n s) (fun b hb => by
      rw [ByteArray.data_append, Array.toList_append] at hb
      rcases List.mem_append.1 hb with hb | hb
      · simp at hb; subst hb; decide
      · exact h b hb)
theorem hash_silent (r : ByteArray) : silentB ({ data := #[35] } ++ r) = true := by
  unfold silentB
  rw [ByteArray.data_append, Array.toList_append]
  simp
theorem ahead_size (r : ByteArray) : ∀ (n : Nat) (s : ByteArray), (aheadN r n s).size = n * (r.size + 2) + s.size
  | 0, s => by simp [aheadN]
  | n + 1, s => by
    rw [aheadN, ByteArray.size_append, ahead_size r n s]
    unfold hashL
    rw [ByteArray.size_append, ByteArray.size_append]
    show 1 + r.size + 1 + _ = _
    rw [Nat.succ_mul]; omega
theorem ahead_eq (r : ByteArray) : ∀ (n : Nat) (s : ByteArray), (⟨(Lib.repeatL (hashL r).data.toList n).toArray⟩ : ByteArray) ++ s = aheadN r n s
  | 0, s => by apply ba_ext; rw [ByteArray.data_append, Array.toList_append]; rfl
  | n + 1, s => by
    rw [aheadN, ← ahead_eq r n s]
    apply ba_ext
    simp only [ByteArray.data_append, Array.toList_append, Lib.repeatL, List.append_assoc]

/-- What is behind n lines that say nothing. -/
def shiftR (n : Nat) : Except (Int × Int) (Jb × List Int × Bool) → Except (Int × Int) (Jb × List Int × Bool)
  | .error q => .error (q.1 + n, q.2)
  | .ok q => .ok (q.1, q.2.1.map (· + (n : Int)), q.2.2)
theorem pGo_silent (r : ByteArray) : ∀ (n i : Nat) (L : List ByteArray) (j : Jb) (a : List Int) (f : Bool), pGo (List.replicate n ({ data := #[35] } ++ r) ++ L) i j a f = pGo L (i + n) j a f
  | 0, i, L, j, a, f => rfl
  | n + 1, i, L, j, a, f => by
    rw [List.replicate_succ, List.cons_append, pGo, hash_silent, cond_true, pGo_silent r n (i + 1) L j a f]
    congr 1; omega
theorem pGo_shift (n : Nat) : ∀ (L : List ByteArray) (i : Nat) (j : Jb) (a : List Int) (f : Bool), pGo L (i + n) j (a.map (· + (n : Int))) f = shiftR n (pGo L i j a f)
  | [], i, j, a, f => rfl
  | t :: L, i, j, a, f => by
    simp only [pGo]
    cases silentB t
    · simp only [cond_false]
      split
      · simp only [shiftR]
        congr 2
        push_cast; omega
      · have ih := pGo_shift n L (i + 1) (pLine j t f).1 (bif f then a else a ++ [((i + 1 : Nat) : Int)]) false
        rw [← ih]
        rw [show i + 1 + n = i + n + 1 by omega]
        congr 1
        cases f
        · simp only [cond_false, List.map_append, List.map_cons, List.map_nil]
          congr 2
          push_cast; omega
        · rfl
    · simp only [cond_true]
      rw [← pGo_shift n L (i + 1) j a f, show i + 1 + n = i + n + 1 by omega]
/-- Lines' numbers are 1 at least, and no greater than the lines are many; as many as nodes. -/
theorem pGo_inv (M : Nat) : ∀ (L : List ByteArray) (i : Nat) (j : Jb) (a : List Int) (f : Bool), (∀ z ∈ a, 1 ≤ z ∧ z ≤ (M : Int)) → a.length = j.nodes.length → i + L.length ≤ M →
    match pGo L i j a f with
    | .error q => 1 ≤ q.1 ∧ q.1 ≤ (M : Int)
    | .ok q => (∀ z ∈ q.2.1, 1 ≤ z ∧ z ≤ (M : Int)) ∧ q.2.1.length = q.1.nodes.length
  | [], i, j, a, f, h1, h2, hM => ⟨h1, h2⟩
  | t :: L, i, j, a, f, h1, h2, hM => by
    rw [List.length_cons] at hM
    have go : (pLine j t f).2 = 0 → (∀ z ∈ (bif f then a else a ++ [((i + 1 : Nat) : Int)]), 1 ≤ z ∧ z ≤ (M : Int)) ∧ (bif f then a else a ++ [((i + 1 : Nat) : Int)]).length = (pLine j t f).1.nodes.length := fun he' => by
      cases f
      · refine ⟨fun z hz => ?_, by rw [cond_false, List.length_append, pl_more j t he', h2]; rfl⟩
        rcases List.mem_append.1 hz with hz | hz
        · exact h1 z hz
        · simp at hz; subst hz; push_cast; omega
      · exact ⟨h1, by rw [cond_true, pl_first, h2]⟩
    simp only [pGo]
    cases silentB t
    · simp only [cond_false]
      by_cases he : (pLine j t f).2 = 0
      · rw [if_neg (fun h => h he)]
        exact pGo_inv M L (i + 1) _ _ false (go he).1 (go he).2 (by omega)
      · rw [if_pos he]
        show 1 ≤ ((i + 1 : Nat) : Int) ∧ ((i + 1 : Nat) : Int) ≤ (M : Int)
        omega
    · simp only [cond_true]
      exact pGo_inv M L (i + 1) j a f h1 h2 (by omega)
theorem pRes_line (M : Nat) (x : Except (Int × Int) (Jb × List Int × Bool)) (h : match x with
    | .error q => 1 ≤ q.1 ∧ q.1 ≤ (M : Int)
    | .ok q => (∀ z ∈ q.2.1, 1 ≤ z ∧ z ≤ (M : Int)) ∧ q.2.1.length = q.1.nodes.length) : 0 ≤ (pRes x).2.1 ∧ (pRes x).2.1 ≤ (M : Int) := by
  match x, h with
  | .error q, h =>
    have h' : 1 ≤ q.1 ∧ q.1 ≤ (M : Int) := h
    show 0 ≤ q.1 ∧ q.1 ≤ (M : Int)
    omega
  | .ok (j, a, true), _ => show (0 : Int) ≤ 0 ∧ (0 : Int) ≤ (M : Int); omega
  | .ok (j, a, false), ⟨h1, h2⟩ =>
    have e1 : pRes (.ok (j, a, false)) = if j.may.2 = 2 then (Jb.zero, 0, 2) else if j.may.2 ≠ 0 then (Jb.zero, a.getD j.may.1.toNat 0, j.may.2) else (j, 0, 0) := rfl
    rw [e1]
    by_cases c2 : j.may.2 = 2
    · rw [if_pos c2]; show (0 : Int) ≤ 0 ∧ (0 : Int) ≤ (M : Int); omega
    · rw [if_neg c2]
      by_cases c0 : j.may.2 = 0
      · rw [if_neg (fun h => h c0)]; show (0 : Int) ≤ 0 ∧ (0 : Int) ≤ (M : Int); omega
      · rw [if_pos c0]
        obtain ⟨m0, m1⟩ := may_at j c0 c2
        dsimp only at h1 h2
        have hl : j.may.1.toNat < a.length := by omega
        have e1 : a.getD j.may.1.toNat 0 = a[j.may.1.toNat] := by rw [List.getD_eq_getElem?_getD, List.getElem?_eq_getElem hl, Option.getD_some]
        have := h1 _ (List.getElem_mem hl)
        show 0 ≤ a.getD j.may.1.toNat 0 ∧ a.getD j.may.1.toNat 0 ≤ (M : Int)
        rw [e1]; omega
theorem pScript_line (s : ByteArray) : 0 ≤ (pScript s).2.1 ∧ (pScript s).2.1 ≤ 65537 := by
  unfold pScript
  split
  · show (0 : Int) ≤ 0 ∧ (0 : Int) ≤ 65537; omega
  · have hl := lines_le s
    exact pRes_line 65537 _ (pGo_inv 65537 _ 0 Jb.zero [] true (fun z hz => by cases hz) rfl (by omega))
theorem pRes_shift (n M : Nat) (x : Except (Int × Int) (Jb × List Int × Bool)) (h : match x with
    | .error q => 1 ≤ q.1 ∧ q.1 ≤ (M : Int)
    | .ok q => (∀ z ∈ q.2.1, 1 ≤ z ∧ z ≤ (M : Int)) ∧ q.2.1.length = q.1.nodes.length) :
    (pRes (shiftR n x)).1 = (pRes x).1 ∧ (pRes (shiftR n x)).2.2 = (pRes x).2.2 ∧ (pRes (shiftR n x)).2.1 = (if 0 < (pRes x).2.1 then (pRes x).2.1 + n else (pRes x).2.1) := by
  match x, h with
  | .error q, h =>
    have h' : 1 ≤ q.1 ∧ q.1 ≤ (M : Int) := h
    have e1 : pRes (.error q) = (Jb.zero, q.1, q.2) := rfl
    have e2 : pRes (shiftR n (.error q)) = (Jb.zero, q.1 + n, q.2) := rfl
    rw [e1, e2]
    refine ⟨rfl, rfl, ?_⟩
    show q.1 + (n : Int) = if 0 < q.1 then q.1 + n else q.1
    rw [if_pos (by omega)]
  | .ok (j, a, true), _ => exact ⟨rfl, rfl, rfl⟩
  | .ok (j, a, false), ⟨h1, h2⟩ =>
    have e1 : pRes (.ok (j, a, false)) = if j.may.2 = 2 then (Jb.zero, 0, 2) else if j.may.2 ≠ 0 then (Jb.zero, a.getD j.may.1.toNat 0, j.may.2) else (j, 0, 0) := rfl
    have e2 : pRes (shiftR n (.ok (j, a, false))) = if j.may.2 = 2 then (Jb.zero, 0, 2) else if j.may.2 ≠ 0 then (Jb.zero, (a.map (· + (n : Int))).getD j.may.1.toNat 0, j.may.2) else (j, 0, 0) := rfl
    rw [e1, e2]
    by_cases c2 : j.may.2 = 2
    · rw [if_pos c2, if_pos c2]; exact ⟨rfl, rfl, rfl⟩
    · rw [if_neg c2, if_neg c2]
      by_cases c0 : j.may.2 = 0
      · rw [if_neg (fun h => h c0), if_neg (fun h => h c0)]; exact ⟨rfl, rfl, rfl⟩
      · rw [if_pos c0, if_pos c0]
        obtain ⟨m0, m1⟩ := may_at j c0 c2
        dsimp only at h1 h2
        have hl : j.may.1.toNat < a.length := by omega
        have e1 : a.getD j.may.1.toNat 0 = a[j.may.1.toNat] := by rw [List.getD_eq_getElem?_getD, List.getElem?_eq_getElem hl, Option.getD_some]
        have e2 : (a.map (· + (n : Int))).getD j.may.1.toNat 0 = a[j.may.1.toNat] + n := by
          rw [List.getD_eq_getElem?_getD, List.getElem?_map, List.getElem?_eq_getElem hl]; rfl
        have := h1 _ (List.getElem_mem hl)
        rw [e1, e2]
        refine ⟨rfl, rfl, ?_⟩
        show a[j.may.1.toNat] + (n : Int) = if 0 < a[j.may.1.toNat] then a[j.may.1.toNat] + n else a[j.may.1.toNat]
        rw [if_pos (by omega)]
theorem pScript_ahead (r s : ByteArray) (n : Nat) (h : ∀ b ∈ r.data.toList, b ≠ 10) (hz : s.size + n * (r.size + 2) ≤ 65536) :
    (pScript (aheadN r n s)).1 = (pScript s).1 ∧ (pScript (aheadN r n s)).2.2 = (pScript s).2.2 ∧ (pScript (aheadN r n s)).2.1 = (if 0 < (pScript s).2.1 then (pScript s).2.1 + n else (pScript s).2.1) := by
  have e1 : pScript s = pRes (pGo (linesB s) 0 Jb.zero [] true) := by unfold pScript; rw [if_neg (by omega)]
  have e2 : pScript (aheadN r n s) = pRes (shiftR n (pGo (linesB s) 0 Jb.zero [] true)) := by
    unfold pScript
    rw [if_neg (by rw [ahead_size]; omega), lines_ahead r h, pGo_silent, ← pGo_shift]
    rfl
  rw [e1, e2]
  exact pRes_shift n ((linesB s).length) _ (pGo_inv _ _ 0 Jb.zero [] true (fun z hz => by cases hz) rfl (Nat.le_of_eq (Nat.zero_add _)))
end Go.Proofs.YtjbchkgkapccnaaGreatDoor
