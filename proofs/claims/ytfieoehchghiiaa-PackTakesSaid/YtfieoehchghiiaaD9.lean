/-
  What the reference reads (plain); the walks of ref14's Text.
-/
import Derived.Test.YtfieoehchghiiaaD8
import Derived.Test.YtfieoehchghiiaaCA
import Derived.Test.YtfieoehchghiiaaCB
namespace Go.Proofs.Ytfieoehchghiiaa
open Go.RowKit
set_option linter.unusedVariables false
set_option linter.unusedSimpArgs false

/-- A number within bounds, or an error. -/
def Rd.win (most why : Int) (p : Rd) : Int × Rd := if p.num.2.e = 0 ∧ (p.num.1 < 0 ∨ most < p.num.1) then (0, ⟨p.num.2.s, why⟩) else p.num
/-- An expression of so many levels. -/
def Rd.rx : Nat → Rd → Ex × Rd
  | k, p => if p.e ≠ 0 then (.mk 0 0 [], p) else match k with
    | 0 => (.mk 0 0 [], ⟨p.s, 3⟩)
    | k + 1 => (.mk (p.win 255 2).1 (p.win 255 2).2.num.1 (reps (Rd.rx k) ((p.win 255 2).2.num.2.win 3 3).1.toNat ((p.win 255 2).2.num.2.win 3 3).2).1, (reps (Rd.rx k) ((p.win 255 2).2.num.2.win 3 3).1.toNat ((p.win 255 2).2.num.2.win 3 3).2).2)
theorem Rd.rx_err (k : Nat) {p : Rd} (h : p.e ≠ 0) : Rd.rx k p = (.mk 0 0 [], p) := by unfold Rd.rx; rw [if_pos h]
theorem Rd.rx_zero {p : Rd} (h : p.e = 0) : Rd.rx 0 p = (.mk 0 0 [], ⟨p.s, 3⟩) := by unfold Rd.rx; rw [if_neg (by simpa using h)]
theorem Rd.rx_succ (k : Nat) {p : Rd} (h : p.e = 0) : Rd.rx (k + 1) p = (.mk (p.win 255 2).1 (p.win 255 2).2.num.1 (reps (Rd.rx k) ((p.win 255 2).2.num.2.win 3 3).1.toNat ((p.win 255 2).2.num.2.win 3 3).2).1, (reps (Rd.rx k) ((p.win 255 2).2.num.2.win 3 3).1.toNat ((p.win 255 2).2.num.2.win 3 3).2).2) := by
  conv => lhs; unfold Rd.rx
  rw [if_neg (by simpa using h)]

theorem Rd.num_bad {p : Rd} (h : p.num.2.e ≠ 0) : p.num.1 = 0 := by
  by_cases hp : p.e = 0
  · unfold Rd.num at h ⊢
    rw [if_pos hp] at h ⊢
    exact (tkGo_err _ 0 0 h).1
  · rw [Rd.num_err hp]
theorem win_many (m : Int) (hm : 0 ≤ m) (p : Rd) : p.win m 3 = p.many m := by
  unfold Rd.win Rd.many
  by_cases he : p.num.2.e = 0
  · by_cases hb : p.num.1 < 0 ∨ m < p.num.1
    · rw [if_pos ⟨he, hb⟩, if_pos hb]
      unfold Rd.fail
      rw [if_pos he]
    · rw [if_neg (fun h => hb h.2), if_neg hb]
  · have h0 := Rd.num_bad he
    rw [if_neg (fun h => he h.1), if_neg (by omega)]
theorem win_small (p : Rd) : (p.win 255 2).2 = p.small.2 ∧ (p.small.2.e = 0 → (p.win 255 2).1 = p.small.1) := by
  unfold Rd.win Rd.small
  by_cases he : p.num.2.e = 0
  · by_cases hb : p.num.1 < 0 ∨ 255 < p.num.1
    · rw [if_pos ⟨he, hb⟩]
      dsimp only
      rw [if_pos hb]
      unfold Rd.fail
      rw [if_pos he]
      exact ⟨rfl, fun h => absurd (show (2 : Int) = 0 from h) (by decide)⟩
    · rw [if_neg (fun h => hb h.2)]
      dsimp only
      rw [if_neg hb]
      exact ⟨rfl, fun _ => (Int.emod_eq_of_lt (by omega) (by omega)).symm⟩
  · have h0 := Rd.num_bad he
    rw [if_neg (fun h => he h.1)]
    dsimp only
    rw [if_neg (by omega)]
    exact ⟨rfl, fun h => absurd h he⟩
theorem win_ir (m why : Int) (hm : 0 ≤ m) (p : Rd) : 0 ≤ (p.win m why).1 ∧ (p.win m why).1 ≤ m := by
  unfold Rd.win
  by_cases he : p.num.2.e = 0
  · by_cases hb : p.num.1 < 0 ∨ m < p.num.1
    · rw [if_pos ⟨he, hb⟩]; dsimp only; omega
    · rw [if_neg (fun h => hb h.2)]; omega
  · have h0 := Rd.num_bad he
    rw [if_neg (fun h => he h.1)]; omega
theorem win_size (m why : Int) (p : Rd) : (p.win m why).2.s.size ≤ p.s.size := by
  unfold Rd.win
  split
  · exact p.num_size
  · exact p.num_size

/-- Behind an error nothing turns. -/
def Stk2 {α : Type} (f : Rd → α × Rd) : Prop := ∀ p, p.e ≠ 0 → (f p).2 = p
theorem small_stk2 : Stk2 Rd.small := fun p hp => by
  unfold Rd.small
  rw [Rd.num_err hp]
  dsimp only
  split
  · exact Rd.fail_of hp 2
  · rfl
theorem many_stk2 (m : Int) : Stk2 (Rd.many m) := fun p hp => by
  unfold Rd.many
  rw [Rd.num_err hp]
  split
  · exact Rd.fail_of hp 3
  · rfl
theorem num_stk2 : Stk2 Rd.num := fun p hp => by rw [Rd.num_err hp]
theorem reps_stk2 {α : Type} {f : Rd → α × Rd} (h : Stk2 f) : ∀ m, Stk2 (reps f m)
  | 0, p, hp => rfl
  | m + 1, p, hp => by
    simp only [reps]
    rw [h p hp]
    exact reps_stk2 h m p hp
theorem ex_stk2 : ∀ k, Stk2 (Rd.ex k)
  | 0, p, hp => Rd.fail_of hp 3
  | k + 1, p, hp => by
    simp only [Rd.ex]
    rw [small_stk2 p hp, num_stk2 p hp, many_stk2 3 p hp]
    exact reps_stk2 (ex_stk2 k) _ p hp
/-- f and g read alike: what is left; without an error what they tell, too. -/
def Alike {α : Type} (f g : Rd → α × Rd) : Prop := ∀ p, (f p).2 = (g p).2 ∧ ((g p).2.e = 0 → (f p).1 = (g p).1)
theorem reps_alike {α : Type} {f g : Rd → α × Rd} (h : Alike f g) (hs : Stk2 g) : ∀ m, Alike (reps f m) (reps g m)
  | 0, p => ⟨rfl, fun _ => rfl⟩
  | m + 1, p => by
    simp only [reps]
    obtain ⟨h1, h2⟩ := h p
    obtain ⟨h3, h4⟩ := reps_alike h hs m (f p).2
    rw [h1] at h3 h4 ⊢
    refine ⟨h3, fun he => ?_⟩
    have hg : (g p).2.e = 0 := by
      by_cases hz : (g p).2.e = 0
      · exact hz
      · rw [reps_stk2 hs m _ hz] at he
        exact he
    rw [h2 hg, h4 he]
theorem rx_alike : ∀ k, Alike (Rd.rx k) (Rd.ex k)
  | 0, p => by
    by_cases hp : p.e = 0
    · rw [Rd.rx_zero hp]
      refine ⟨?_, fun h => rfl⟩
      show _ = p.fail 3
      unfold Rd.fail
      rw [if_pos hp]
    · rw [Rd.rx_err 0 hp]
      exact ⟨(ex_stk2 0 p hp).symm, fun h => absurd (by rw [ex_stk2 0 p hp] at h; exact h) hp⟩
  | k + 1, p => by
    by_cases hp : p.e = 0
    · rw [Rd.rx_succ k hp]
      simp only [Rd.ex]
      obtain ⟨h1, h2⟩ := win_small p
      rw [h1, win_many 3 (by decide)]
      obtain ⟨h3, h4⟩ := reps_alike (rx_alike k) (ex_stk2 k) (p.small.2.num.2.many 3).1.toNat (p.small.2.num.2.many 3).2
      refine ⟨h3, fun he => ?_⟩
      have e2 : (p.small.2.num.2.many 3).2.e = 0 := by
        by_cases hz : (p.small.2.num.2.many 3).2.e = 0
        · exact hz
        · rw [reps_stk2 (ex_stk2 k) _ _ hz] at he; exact he
      have e1 : p.small.2.num.2.e = 0 := by
        by_cases hz : p.small.2.num.2.e = 0
        · exact hz
        · rw [many_stk2 3 _ hz] at e2; exact e2
      have e0 : p.small.2.e = 0 := by
        by_cases hz : p.small.2.e = 0
        · exact hz
        · rw [num_stk2 _ hz] at e1; exact e1
      rw [h2 e0, h4 he]
    · rw [Rd.rx_err _ hp]
      exact ⟨(ex_stk2 (k + 1) p hp).symm, fun h => absurd (by rw [ex_stk2 (k + 1) p hp] at h; exact h) hp⟩
theorem Rd.rx_size (k : Nat) (p : Rd) : (Rd.rx k p).2.s.size ≤ p.s.size := by rw [(rx_alike k p).1]; exact Rd.ex_size k p
/-- A node. -/
def Rd.rnd (p : Rd) : Nd × Rd :=
  (⟨p.text.1, (p.text.2.win 255 2).1, (reps Rd.num ((p.text.2.win 255 2).2.num.2.win 12 3).1.toNat ((p.text.2.win 255 2).2.num.2.win 12 3).2).1, (Rd.rx 17 (reps Rd.num ((p.text.2.win 255 2).2.num.2.win 12 3).1.toNat ((p.text.2.win 255 2).2.num.2.win 12 3).2).2).1, (p.text.2.win 255 2).2.num.1⟩,
    (Rd.rx 17 (reps Rd.num ((p.text.2.win 255 2).2.num.2.win 12 3).1.toNat ((p.text.2.win 255 2).2.num.2.win 12 3).2).2).2)
theorem rnd_alike : Alike Rd.rnd Rd.nd := fun p => by
  unfold Rd.rnd Rd.nd Rd.nd3
  obtain ⟨h1, h2⟩ := win_small p.text.2
  rw [h1, win_many 12 (by decide)]
  obtain ⟨h3, h4⟩ := rx_alike 17 (reps Rd.num (p.text.2.small.2.num.2.many 12).1.toNat (p.text.2.small.2.num.2.many 12).2).2
  refine ⟨h3, fun he => ?_⟩
  dsimp only at he ⊢
  have e3 : (reps Rd.num (p.text.2.small.2.num.2.many 12).1.toNat (p.text.2.small.2.num.2.many 12).2).2.e = 0 := by
    by_cases hz : (reps Rd.num (p.text.2.small.2.num.2.many 12).1.toNat (p.text.2.small.2.num.2.many 12).2).2.e = 0
    · exact hz
    · rw [ex_stk2 17 _ hz] at he; exact he
  have e2 : (p.text.2.small.2.num.2.many 12).2.e = 0 := by
    by_cases hz : (p.text.2.small.2.num.2.many 12).2.e = 0
    · exact hz
    · rw [reps_stk2 num_stk2 _ _ hz] at e3; exact e3
  have e1 : p.text.2.small.2.num.2.e = 0 := by
    by_cases hz : p.text.2.small.2.num.2.e = 0
    · exact hz
    · rw [many_stk2 12 _ hz] at e2; exact e2
  have e0 : p.text.2.small.2.e = 0 := by
    by_cases hz : p.text.2.small.2.e = 0
    · exact hz
    · rw [num_stk2 _ hz] at e1; exact e1
  rw [h2 e0, h4 he]
/-- So many nodes, while there is no error. -/
def rNds : Nat → Rd → List Nd × Rd
  | 0, p => ([], p)
  | m + 1, p => if p.e ≠ 0 then ([], p) else (p.rnd.1 :: (rNds m p.rnd.2).1, (rNds m p.rnd.2).2)
theorem rNds_err (m : Nat) {p : Rd} (h : p.e ≠ 0) : rNds m p = ([], p) := by
  cases m with
  | zero => rfl
  | succ m => simp only [rNds]; rw [if_pos h]
theorem rNds_alike : ∀ (m : Nat) (p : Rd), p.e = 0 → (rNds m p).2 = (takeNds m p).2 ∧ ((takeNds m p).2.e = 0 → (rNds m p).1 = (takeNds m p).1)
  | 0, p, _ => ⟨rfl, fun _ => rfl⟩
  | m + 1, p, hp => by
    simp only [rNds, takeNds]
    rw [if_neg (by simpa using hp)]
    obtain ⟨h1, h2⟩ := rnd_alike p
    by_cases hz : p.nd.2.e = 0
    · rw [if_neg (by simpa using hz), h1]
      obtain ⟨h3, h4⟩ := rNds_alike m p.nd.2 hz
      exact ⟨h3, fun he => by dsimp only at he ⊢; rw [h2 hz, h4 he]⟩
    · rw [if_pos hz, h1, rNds_err m hz]
      exact ⟨rfl, fun he => absurd he hz⟩
/-- What ref14.Take reads. -/
def Rd.rjb (s : ByteArray) : Jb × Rd :=
  (⟨(Rd.num ⟨s, 0⟩).1, (rNds ((Rd.num ⟨s, 0⟩).2.win 12 3).1.toNat ((Rd.num ⟨s, 0⟩).2.win 12 3).2).1⟩, (rNds ((Rd.num ⟨s, 0⟩).2.win 12 3).1.toNat ((Rd.num ⟨s, 0⟩).2.win 12 3).2).2)
theorem many_bad (m : Int) {p : Rd} (h : (p.many m).2.e ≠ 0) : (p.many m).1 = 0 := by
  unfold Rd.many at h ⊢
  split at h
  · rename_i hb; rw [if_pos hb]
  · rename_i hb; rw [if_neg hb]; exact Rd.num_bad h
theorem rjb_alike (s : ByteArray) : (Rd.rjb s).2 = (Rd.jb s).2 ∧ ((Rd.jb s).2.e = 0 → (Rd.rjb s).1 = (Rd.jb s).1) := by
  unfold Rd.rjb Rd.jb
  dsimp only
  rw [win_many 12 (by decide)]
  by_cases hz : ((Rd.num ⟨s, 0⟩).2.many 12).2.e = 0
  · obtain ⟨h3, h4⟩ := rNds_alike ((Rd.num ⟨s, 0⟩).2.many 12).1.toNat _ hz
    exact ⟨h3, fun he => by rw [h4 he]⟩
  · rw [many_bad 12 hz]
    exact ⟨rfl, fun _ => rfl⟩
/-- What ref14.Take tells. -/
theorem takeJ_ref (s : ByteArray) : takeJ s = if (Rd.rjb s).2.e ≠ 0 then (⟨0, []⟩, (Rd.rjb s).2.e) else if (Rd.rjb s).2.s.size ≠ 0 ∨ (Rd.rjb s).1.may.2 ≠ 0 then (⟨0, []⟩, 2) else ((Rd.rjb s).1, 0) := by
  obtain ⟨h1, h2⟩ := rjb_alike s
  unfold takeJ
  dsimp only
  rw [h1]
  by_cases he : (Rd.jb s).2.e = 0
  · rw [if_neg (c := (Rd.jb s).2.e ≠ 0) (by simpa using he), h2 he]
    have hf : (Rd.jb s).2.fail 2 = ⟨(Rd.jb s).2.s, 2⟩ := by unfold Rd.fail; rw [if_pos he]
    have h20 : ¬ ((⟨(Rd.jb s).2.s, 2⟩ : Rd).e = 0) := by show ¬ ((2 : Int) = 0); decide
    have h2e : (⟨(Rd.jb s).2.s, 2⟩ : Rd).e ≠ 0 := h20
    by_cases hz : (Rd.jb s).2.s.size = 0
    · rw [if_pos hz]
      by_cases hm : (Rd.jb s).1.may.2 = 0
      · rw [if_pos hm, if_pos he, if_neg (by simp [hz, hm])]
      · rw [if_neg hm, hf, if_neg h20, if_pos (Or.inr hm)]
    · rw [if_neg hz, hf]
      by_cases hm : (Rd.jb s).1.may.2 = 0
      · rw [if_pos hm, if_neg h20, if_pos (Or.inl hz)]
      · rw [if_neg hm, Rd.fail_of h2e, if_neg h20, if_pos (Or.inl hz)]
  · rw [if_pos he]
    have hf := Rd.fail_of he 2
    have e1 : (if (Rd.jb s).2.s.size = 0 then (Rd.jb s).2 else (Rd.jb s).2.fail 2) = (Rd.jb s).2 := by rw [hf]; split <;> rfl
    rw [e1, hf]
    have e2 : (if (Rd.jb s).1.may.2 = 0 then (Rd.jb s).2 else (Rd.jb s).2) = (Rd.jb s).2 := by split <;> rfl
    rw [e2, if_neg he]

end Go.Proofs.Ytfieoehchghiiaa
