/-
  The reference's rules, all at once.
-/
import Derived.Test.YtlkkigpjahlloaaDoorG6
import Derived.Test.YtlkkigpjahlloaaDoorG7
import Derived.Test.YtlkkigpjahlloaaDoorY0
namespace Go.Proofs.YtlkkigpjahlloaaDoor
open Go.RowKit
set_option linter.unusedVariables false

theorem numB_lt {st : PSt} (h : st.numB = true) : st.next.l.length < st.l.length := by
  obtain ⟨l, b⟩ := st
  cases l with
  | nil => simp [PSt.numB] at h
  | cons t l => simp [PSt.next]

/-- A rule that did not go wrong has taken a token. -/
theorem prF_lt (E : Int) (N : Nat) : ∀ (lv : Nat) (st : PSt), st.need lv ≤ N → lv ≤ 6 → (prF E lv st).2.bad = none → (prF E lv st).2.l.length < st.l.length := by
  induction N using Nat.strongRecOn with
  | ind N ih =>
    intro lv st hn hlv hg
    unfold PSt.need at hn
    have ih' : ∀ (lv' : Nat) (st' : PSt), 8 * st'.l.length + (7 - lv') < N → lv' ≤ 6 → (prF E lv' st').2.bad = none → (prF E lv' st').2.l.length < st'.l.length := fun lv' st' h1 h2 h3 => ih _ h1 lv' st' (Nat.le_refl _) h2 h3
    by_cases h5 : lv < 5
    · rw [prF_row E lv st h5] at hg ⊢
      have h1 : (prF E (lv + 1) st).2.bad = none := by
        cases hh : (prF E (lv + 1) st).2.bad with
        | none => rfl
        | some b =>
          rw [rowL_bad _ _ _ (by rw [hh]; rfl), hh] at hg
          cases hg
      exact Nat.lt_of_le_of_lt (rowL_len (prF_len E (lv + 1)) _ _ _ _) (ih' (lv + 1) st (by omega) (by omega) h1)
    · by_cases h6 : lv = 5
      · subst h6
        rw [prF_unary] at hg ⊢
        unfold prUnary at hg ⊢
        by_cases c1 : st.isB [45] = true
        · simp only [if_pos c1] at hg ⊢
          exact Nat.lt_of_le_of_lt (prF_len E 5 st.next) (PSt.next_lt c1)
        · simp only [if_neg c1] at hg ⊢
          by_cases c2 : st.isB [33] = true
          · simp only [if_pos c2] at hg ⊢
            exact Nat.lt_of_le_of_lt (prF_len E 5 st.next) (PSt.next_lt c2)
          · simp only [if_neg c2] at hg ⊢
            exact ih' 6 st (by omega) (by omega) hg
      · obtain rfl : lv = 6 := by omega
        rw [prF_one] at hg ⊢
        unfold prOne at hg ⊢
        by_cases c0 : st.bad.isSome = true
        · simp only [if_pos c0] at hg
          rw [hg] at c0
          cases c0
        · simp only [if_neg c0] at hg ⊢
          by_cases c1 : st.numB = true
          · simp only [if_pos c1] at hg ⊢
            exact numB_lt c1
          · simp only [if_neg c1] at hg ⊢
            by_cases c2 : st.isB wKey = true
            · simp only [if_pos c2] at hg ⊢
              exact PSt.next_lt c2
            · simp only [if_neg c2] at hg ⊢
              by_cases c3 : st.isB wVal = true
              · simp only [if_pos c3] at hg ⊢
                exact PSt.next_lt c3
              · simp only [if_neg c3] at hg ⊢
                by_cases c4 : st.isB wAcc = true
                · simp only [if_pos c4] at hg ⊢
                  exact PSt.next_lt c4
                · simp only [if_neg c4] at hg ⊢
                  by_cases c5 : st.isB [40] = true
                  · simp only [if_pos c5] at hg ⊢
                    exact Nat.lt_of_le_of_lt (Nat.le_trans (PSt.must_le E _ _) (prF_len E 0 st.next)) (PSt.next_lt c5)
                  · simp only [if_neg c5] at hg ⊢
                    by_cases c6 : st.isB wIf = true
                    · simp only [if_pos c6] at hg ⊢
                      unfold prIf
                      exact Nat.lt_of_le_of_lt (Nat.le_trans (prF_len E 0 _) (Nat.le_trans (PSt.must_le E _ _) (Nat.le_trans (prF_len E 0 _) (Nat.le_trans (PSt.must_le E _ _) (prF_len E 0 st.next))))) (PSt.next_lt c6)
                    · simp only [if_neg c6] at hg
                      exact absurd hg (PSt.fails_bad E st)

def tF : Nat → FuncId
  | 5 => 48
  | 6 => 61
  | _ => 31
def tA : Nat → Nat → Array Value
  | 5 => ptr
  | 6 => ptr
  | lv => ptrL (lv : Int)

theorem tF_row {lv : Nat} (h : lv < 5) : tF lv = 31 ∧ tA lv = ptrL (lv : Int) := by
  match lv, h with
  | 0, _ => exact ⟨rfl, rfl⟩
  | 1, _ => exact ⟨rfl, rfl⟩
  | 2, _ => exact ⟨rfl, rfl⟩
  | 3, _ => exact ⟨rfl, rfl⟩
  | 4, _ => exact ⟨rfl, rfl⟩

theorem text_all (bt : Nat) (E : Int) (hE : 0 ≤ E) (L : List Tok) (hL : TkOk L) (hNm : NmOk L) (N : Nat) : ∀ (lv : Nat) (st : PSt), st.need lv ≤ N → lv ≤ 6 → st.l.length ≤ 400 → ∀ w : World, TxAt w bt E L st →
    Calls Tryd.prog (tF lv) (tA lv bt) w (PrPost w (fun w st => TxAt w bt E L st) bt (prF E lv st)) := by
  induction N using Nat.strongRecOn with
  | ind N ih =>
    intro lv st hn hlv h400 w h
    unfold PSt.need at hn
    have ih' : ∀ (lv' : Nat) (st' : PSt), 8 * st'.l.length + (7 - lv') < N → lv' ≤ 6 → st'.l.length ≤ 400 → ∀ w : World, TxAt w bt E L st' → Calls Tryd.prog (tF lv') (tA lv' bt) w (PrPost w (fun w st => TxAt w bt E L st) bt (prF E lv' st')) :=
      fun lv' st' h1 h2 h3 w h4 => ih _ h1 lv' st' (Nat.le_refl _) h2 h3 w h4
    by_cases h5 : lv < 5
    · obtain ⟨e1, e2⟩ := tF_row h5
      rw [e1, e2, prF_row E lv st h5]
      refine t_row lv h5 bt E L hL hNm st w h (prF E (lv + 1)) rfl ?_ (prF_len E (lv + 1)) ?_
      · intro hb
        have := prF_lt E _ (lv + 1) st (Nat.le_refl _) (by omega) hb
        omega
      · intro st' w' hl ht
        have hc : ptrL ((lv : Int) + 1) = ptrL (((lv + 1 : Nat)) : Int) := by rw [show (((lv + 1 : Nat)) : Int) = (lv : Int) + 1 by omega]
        rw [hc]
        by_cases h4 : lv + 1 < 5
        · obtain ⟨f1, f2⟩ := tF_row h4
          have := ih' (lv + 1) st' (by omega) (by omega) (by omega) w' ht
          rw [f1, f2] at this
          exact this
        · obtain rfl : lv = 4 := by omega
          refine t_row5 bt E L st' w' ht ?_
          intro st2 w2 hl2 ht2
          exact ih' 5 st2 (by omega) (by omega) (by omega) w2 ht2
    · by_cases h6 : lv = 5
      · subst h6
        rw [prF_unary]
        refine t_unary bt E L hL st w h ?_ ?_
        · intro n hlt st' w' hl ht
          exact ih' 5 st' (by omega) (by omega) (by omega) w' ht
        · intro st' w' hl ht
          exact ih' 6 st' (by omega) (by omega) (by omega) w' ht
      · obtain rfl : lv = 6 := by omega
        have h00 : Hid (∀ n, n < st.l.length → TrC 31 (ptrL 0) bt E L (prF E 0) n) := by
          intro n hlt st' w' hl ht
          exact ih' 0 st' (by omega) (by omega) (by omega) w' ht
        rw [prF_one]
        show Calls Tryd.prog 61 #[.pointer (some ⟨bt, 0, none⟩)] w _
        unfold prOne
        by_cases hbad : st.bad.isSome = true
        · rw [if_pos hbad]; exact tone_bad bt E hE L hL st w h hbad
        · rw [if_neg hbad]
          have hb : st.bad = none := by cases hh : st.bad <;> simp_all
          by_cases hnum : st.numB = true
          · rw [if_pos hnum]; exact tone_num bt E hE L hL st w h hb hnum
          · rw [if_neg hnum]
            have hn2 : st.numB = false := by simpa using hnum
            by_cases h1 : st.isB wKey = true
            · rw [if_pos h1]; exact tone_key bt E hE L hL st w h hb hn2 h1
            · rw [if_neg h1]
              have g1 : st.isB wKey = false := by simpa using h1
              by_cases h2 : st.isB wVal = true
              · rw [if_pos h2]; exact tone_val bt E hE L hL st w h hb hn2 g1 h2
              · rw [if_neg h2]
                have g2 : st.isB wVal = false := by simpa using h2
                by_cases h3 : st.isB wAcc = true
                · rw [if_pos h3]; exact tone_acc bt E hE L hL st w h hb hn2 g1 g2 h3
                · rw [if_neg h3]
                  have g3 : st.isB wAcc = false := by simpa using h3
                  by_cases h4 : st.isB [40] = true
                  · rw [if_pos h4]; exact tone_open bt E hE L hL st w h hb hn2 g1 g2 g3 h4 _ _ rfl rfl (PSt.next_lt h4) h00
                  · rw [if_neg h4]
                    have g4 : st.isB [40] = false := by simpa using h4
                    by_cases h5 : st.isB wIf = true
                    · rw [if_pos h5]
                      unfold prIf
                      have l2 := Nat.le_trans (PSt.must_le E (prF E 0 st.next).2 wThen) (prF_len E 0 st.next)
                      have l3 := Nat.le_trans (Nat.le_trans (PSt.must_le E (prF E 0 ((prF E 0 st.next).2.must E wThen)).2 wElse) (prF_len E 0 ((prF E 0 st.next).2.must E wThen))) l2
                      exact tone_if bt E hE L hL st w h hb hn2 g1 g2 g3 g4 h5 _ _ _ _ _ rfl rfl rfl rfl rfl (PSt.next_lt h5) l2 l3 h00
                    · rw [if_neg h5]; exact tone_fails bt E hE L hL st w h hb hn2 g1 g2 g3 g4 (Lib.hid (by simpa using h5))

theorem trow_c (bt : Nat) (E : Int) (hE : 0 ≤ E) (L : List Tok) (hL : TkOk L) (hNm : NmOk L) (st : PSt) (h400 : st.l.length ≤ 400) (w : World) (h : TxAt w bt E L st) :
    Calls Tryd.prog 31 #[.pointer (some ⟨bt, 0, none⟩), .int .i64 0] w (PrPost w (fun w st => TxAt w bt E L st) bt (prF E 0 st)) := text_all bt E hE L hL hNm _ 0 st (Nat.le_refl _) (by omega) h400 w h

end Go.Proofs.YtlkkigpjahlloaaDoor
