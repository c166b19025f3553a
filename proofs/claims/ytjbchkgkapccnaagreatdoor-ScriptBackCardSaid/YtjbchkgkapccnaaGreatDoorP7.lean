/-
  Plain laws on tokens: what is behind a text.
-/
import Derived.Test.YtjbchkgkapccnaaGreatDoorMA
namespace Go.Proofs.YtjbchkgkapccnaaGreatDoor
open Go.RowKit
set_option linter.unusedVariables false

theorem kindN_32 : kindN 32 = 0 := by decide +kernel
theorem kindN_36 : kindN 36 = 0 := by decide +kernel

theorem goes_none (k : Int) (tx : ByteArray) (r : Int) (hr : kindN r = 0) (h61 : r ≠ 61) : goesB k tx r = false := by
  unfold goesB
  by_cases h : k = 3
  · rw [if_pos h, decide_eq_false h61, Bool.false_and]
  · rw [if_neg h, hr]
    by_cases h0 : k = 0
    · rw [h0]; rfl
    · rw [decide_eq_false (p := (0 : Int) = k) (fun e => h0 e.symm), Bool.and_false]

theorem tokGo_ends : ∀ (rs : List Int) (t : Tok) (k : Int) (out : List Tok),
    ((tokGo t k out rs).2.2 ≠ 0 → (tokGo t k out (rs ++ [32, 36])).2.2 = (tokGo t k out rs).2.2) ∧
    ((tokGo t k out rs).2.2 = 0 → tokGo t k out (rs ++ [32, 36]) = ([], k + rs.length + 2, 70))
  | [], t, k, out => by
    simp only [List.nil_append, tokGo]
    rw [goes_none t.kind t.text 32 kindN_32 (by decide), goes_none Tok.zero.kind Tok.zero.text 36 kindN_36 (by decide)]
    cases h : endTok t out with
    | none => simp
    | some o =>
      have h2 : endTok Tok.zero o = some o := rfl
      simp [h2, kindN_36]
      omega
  | r :: rs, t, k, out => by
    simp only [List.cons_append, tokGo, List.length_cons]
    by_cases hg : goesB t.kind t.text r = true
    · rw [if_pos hg, if_pos hg]
      have ih := tokGo_ends rs { t with text := t.text ++ Utf8.encode r } (k + 1) out
      refine ⟨ih.1, fun h => ?_⟩
      rw [ih.2 h]
      congr 2
      omega
    · rw [if_neg hg, if_neg hg]
      cases h : endTok t out with
      | none => simp
      | some o =>
        dsimp only
        by_cases hb : r = 32 ∨ r = 9
        · rw [if_pos hb, if_pos hb]
          have ih := tokGo_ends rs Tok.zero (k + 1) o
          refine ⟨ih.1, fun h => ?_⟩
          rw [ih.2 h]
          congr 2
          omega
        · rw [if_neg hb, if_neg hb]
          by_cases hk : kindN r = 0
          · rw [if_pos hk, if_pos hk]; simp
          · rw [if_neg hk, if_neg hk]
            have ih := tokGo_ends rs ⟨kindN r, Utf8.encode r, 0, k + 1⟩ (k + 1) o
            refine ⟨ih.1, fun h => ?_⟩
            rw [ih.2 h]
            congr 2
            omega

def endsS : ByteArray := { data := #[32, 36] }
theorem toks_ends (s : ByteArray) (hs : s.size + 2 ≤ 400) :
    ((toks s).2.2 ≠ 0 → (toks (s ++ endsS)).2.2 = (toks s).2.2) ∧ ((toks s).2.2 = 0 → toks (s ++ endsS) = ([], ((runes s).length : Int) + 1, 70)) := by
  have h2 : (s ++ endsS).size = s.size + 2 := by rw [ByteArray.size_append]; rfl
  have hr : runes (s ++ endsS) = runes s ++ [32, 36] := by
    rw [runes_append s endsS (.inr (by decide))]
    have e : runes endsS = [32, 36] := by decide +kernel
    rw [e]
  unfold toks
  rw [if_neg (by omega), if_neg (by omega), hr]
  have h := tokGo_ends (runes s) Tok.zero (-1) []
  refine ⟨h.1, fun h0 => ?_⟩
  rw [h.2 h0]
  congr 2
  omega

end Go.Proofs.YtjbchkgkapccnaaGreatDoor
