/-
  The walk of slices.Equal at tokens.
-/
import Derived.Test.YtdjeaklekhjbcaaDoorW5
import Derived.Test.YtdjeaklekhjbcaaDoorT8
namespace Go.Proofs.YtdjeaklekhjbcaaDoor
open Go.RowKit
set_option linter.unusedVariables false

def tokEq (a b : Tok) : Bool := decide (a.kind = b.kind) && decide (a.text = b.text) && decide (a.n = b.n) && decide (a.at_ = b.at_)
def toksEq : List Tok → List Tok → Bool
  | [], [] => true
  | a :: l, b :: m => tokEq a b && toksEq l m
  | _, _ => false
theorem tokEq_iff (a b : Tok) : tokEq a b = true ↔ a = b := by
  obtain ⟨a1, a2, a3, a4⟩ := a
  obtain ⟨b1, b2, b3, b4⟩ := b
  simp only [tokEq, Bool.and_eq_true, decide_eq_true_eq, Tok.mk.injEq, and_assoc]
theorem toksEq_iff : ∀ a b : List Tok, toksEq a b = true ↔ a = b
  | [], [] => by simp [toksEq]
  | [], _ :: _ => by simp [toksEq]
  | _ :: _, [] => by simp [toksEq]
  | x :: l, y :: m => by simp only [toksEq, Bool.and_eq_true, tokEq_iff, toksEq_iff l m, List.cons.injEq]

theorem toksEq_len : ∀ {a b : List Tok}, a.length ≠ b.length → toksEq a b = false
  | [], [], h => absurd rfl h
  | [], _ :: _, _ => rfl
  | _ :: _, [], _ => rfl
  | x :: l, y :: m, h => by simp only [toksEq]; rw [toksEq_len (by simpa using h), Bool.and_false]

theorem tok_held : Tryd.prog.stoodInHeld 29 = false := by kernel_rfl
theorem tok_fields : (Tryd.prog.fieldsOf 29).toList.map (fun f => (f.name, f.type, f.offset)) = [("Kind", 5, 0), ("Text", 9, 1), ("N", 2, 2), ("At", 3, 3)] := by kernel_rfl
theorem run_neq_tok (x1 : Int) (x2 : ByteArray) (x3 x4 y1 : Int) (y2 : ByteArray) (y3 y4 : Int) (w : World) :
    (binOp .neq 29 (.agg #[.int .u8 x1, .string x2, .int .i64 x3, .int .i64 x4]) (.agg #[.int .u8 y1, .string y2, .int .i64 y3, .int .i64 y4])).run Tryd.prog w =
      .ok (.bool (!tokEq ⟨x1, x2, x3, x4⟩ ⟨y1, y2, y3, y4⟩)) w := by
  have hb := bytes_inj x2 y2
  go_simp
  unfold tokEq
  dsimp only
  by_cases h1 : x1 = y1
  · by_cases h2 : x2 = y2
    · by_cases h3 : x3 = y3
      · by_cases h4 : x4 = y4
        · simp [h1, h2, h3, h4]
        · simp [h1, h2, h3, h4]
      · simp [h1, h2, h3]
    · simp [h1, h2]
  · simp [h1]

set_option maxHeartbeats 400000 in
theorem EqualTok_c (v1 v2 : Value) (B : Nat) (l1 l2 : List Tok) (w : World) (h1 : Sl w B 4 v1 l1.length (toksCells l1)) (h2 : Sl w B 4 v2 l2.length (toksCells l2)) :
    Calls Tryd.prog 13 #[v1, v2] w fun e w' => e = .returned (.bool (toksEq l1 l2)) ∧ ∃ n, w' = w.drewN n := by
  by_cases hl : l1.length = l2.length
  · obtain ⟨n, hn1⟩ : ∃ n, l1.length = n := ⟨_, rfl⟩
    have hn2 : l2.length = n := by omega
    rw [hn1] at h1
    rw [hn2] at h2
    obtain ⟨_, a1, cap1, rfl, hc1, hm1, _⟩ := id h1
    obtain ⟨_, a2, cap2, rfl, hc2, hm2, _⟩ := id h2
    have H1 := Lib.hid h1
    have H2 := Lib.hid h2
    have HN1 := Lib.hid hn1
    have HN2 := Lib.hid hn2
    have hnm : n ≤ 9223372036854775807 := by unfold maxLen at hm1; omega
    clear h1 h2 hn1 hn2 hl
    rename_i hx1 hx2 hx3 hx4
    clear hx1 hx2 hx3 hx4
    go_enter Tryd.func13, Tryd.ntmps13
    go_wp2
    go_loopw [13] (fun i wr => ∃ k m : Nat, i = .int .i64 k ∧ k ≤ n ∧ wr = w.drewN m ∧ toksEq (l1.drop k) (l2.drop k) = toksEq l1 l2) (fun i _ => n - (intOf i).toNat)
    case atStart => exact ⟨0, 0, rfl, by omega, rfl, rfl⟩
    case round =>
      obtain ⟨k, m, rfl, hk, rfl, hr⟩ := hrel
      by_cases hlt : k < n
      · obtain ⟨b1, o1, c1, e1, g1, p0, p1, p2, p3⟩ := H1.out.tok k hlt
        obtain ⟨b2, o2, c2, e2, g2, q0, q1, q2, q3⟩ := H2.out.tok k hlt
        simp only [Value.slice.injEq, true_and] at e1 e2
        obtain ⟨rfl, rfl⟩ := e1
        obtain ⟨rfl, rfl⟩ := e2
        rw [List.drop_eq_getElem_cons g1, List.drop_eq_getElem_cons g2] at hr
        generalize l1[k] = x at *
        generalize l2[k] = y at *
        simp only [toksEq] at hr
        have HR := Lib.hid hr
        clear hr
        obtain ⟨x1, x2, x3, x4⟩ := x
        obtain ⟨y1, y2, y3, y4⟩ := y
        have hne := run_neq_tok x1 x2 x3 x4 y1 y2 y3 y4
        generalize hT : tokEq ⟨x1, x2, x3, x4⟩ ⟨y1, y2, y3, y4⟩ = T at *
        cases T
        · go_wp2
          go_quiet (fail)
          go_wp2
          go_ret
          exact ⟨ret_bool (by rw [← HR.out]; rfl), _, World.drewN_drewN _ _ _⟩
        · go_wp2
          go_quiet (fail)
          go_wp2
          go_roundw
          case rel => exact ⟨k + 1, m + nq, by go_num, by omega, rfl, by rw [← HR.out, Bool.true_and]⟩
          case measure => simp [intOf]; omega
      · have hkn : k = n := by omega
        have HK := Lib.hid hkn
        clear hkn
        have e1 : l1.drop k = [] := List.drop_of_length_le (by have := HN1.out; omega)
        have e2 : l2.drop k = [] := List.drop_of_length_le (by have := HN2.out; omega)
        rw [e1, e2] at hr
        have HR := Lib.hid hr
        clear hr e1 e2
        go_wp2
        go_ret
        exact ⟨ret_bool (by rw [← HR.out]; rfl), _, rfl⟩
  · obtain ⟨_, a1, cap1, rfl, hc1, hm1, _⟩ := h1
    obtain ⟨_, a2, cap2, rfl, hc2, hm2, _⟩ := h2
    rename_i hx1 hx2 hx3 hx4
    clear hx1 hx2 hx3 hx4
    have hne : ((l1.length : Int) != (l2.length : Int)) = true := by rw [bne_iff_ne]; omega
    have HE := Lib.hid (toksEq_len hl)
    go_enter Tryd.func13, Tryd.ntmps13
    go_wp2
    go_ret
    exact ⟨ret_bool HE.out.symm, 0, rfl⟩

end Go.Proofs.YtdjeaklekhjbcaaDoor
