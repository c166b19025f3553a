/-
  Walks of the reference's lex: what.
-/
import Derived.Test.YtlkkigpjahlloaaDoorR1
import Derived.Test.YtlkkigpjahlloaaDoorP6
namespace Go.Proofs.YtlkkigpjahlloaaDoor
open Go.RowKit
set_option linter.unusedVariables false

def sgS : ByteArray := { data := #[43, 45, 42, 47, 37, 40, 41, 38, 124, 33, 61, 60] }
def sgl : List Int := [43, 45, 42, 47, 37, 40, 41, 38, 124, 33, 61, 60]
theorem sgl_sign (r : Int) : signB r = sgl.any (· == r) := by
  unfold signB sgl
  rw [Bool.eq_iff_iff]
  simp only [List.any_cons, List.any_nil, Bool.or_eq_true, beq_iff_eq, decide_eq_true_eq, Bool.or_false]
  omega
theorem sg_at (k : Nat) (h : k < sgl.length) (h' : k < ({ data := #[43, 45, 42, 47, 37, 40, 41, 38, 124, 33, 61, 60] } : ByteArray).size) : wrap32 ((({ data := #[43, 45, 42, 47, 37, 40, 41, 38, 124, 33, 61, 60] } : ByteArray)[k]'h').toNat : Int) = sgl[k]'h := by
  have h12 : k < 12 := h
  have hall : ∀ j : Fin 12, (((sgS.data[j.1]'(by have := j.2; show j.1 < 12; omega)).toNat : Nat) : Int) = sgl[j.1]'(by have := j.2; show j.1 < 12; omega) := by decide
  have e : ((({ data := #[43, 45, 42, 47, 37, 40, 41, 38, 124, 33, 61, 60] } : ByteArray)[k]'h').toNat : Int) = sgl[k]'h := hall ⟨k, h12⟩
  have hb := (({ data := #[43, 45, 42, 47, 37, 40, 41, 38, 124, 33, 61, 60] } : ByteArray)[k]'h').toNat_lt
  rw [← e]
  unfold wrap32
  omega

set_option maxHeartbeats 1000000 in
theorem what_sign (r : Int) (w : World) (h1 : r < 48 ∨ 57 < r) (h2 : (r == 32) = false) (h3 : (r == 9) = false) :
    Calls Tryd.prog 47 #[.int .i32 r] w fun e w' => e = .returned (.int .i64 (whatN r)) ∧ Below w.heap.size w w' := by
  have hd : ¬ (48 ≤ r ∧ r ≤ 57) := by omega
  have hbl : ¬ (r = 32 ∨ r = 9) := by simp at h2 h3; omega
  have hz : (Utf8.encode r).size ≤ 1000000 := by have := encode_size r; omega
  have HW : Hid (whatN r = if signB r then 3 else if nameB (Utf8.encode r) then 1 else 0) := by unfold whatN; rw [if_neg hd, if_neg hbl]; exact id rfl
  have HD := Lib.hid hd
  have hss : sgS.size = 12 := rfl
  clear hd hbl
  go_enter Tryd.func47, Tryd.ntmps47
  rcases h1 with h1 | h1
  all_goals
    go_wp2
    show Code.wp _ _ _ _ _
    go_loop [4] (fun i => ∃ k : Nat, i = .int .i64 k ∧ k ≤ 12 ∧ (sgl.drop k).any (· == r) = signB r) (fun i => 12 - (intOf i).toNat)
    case atStart => exact ⟨0, rfl, by omega, (sgl_sign r).symm⟩
    case round =>
      obtain ⟨k, rfl, hk, hr⟩ := hrel
      by_cases hlt : k < 12
      · have hl : k < sgl.length := hlt
        have hsa : ∀ h', wrap32 ((({ data := #[43, 45, 42, 47, 37, 40, 41, 38, 124, 33, 61, 60] } : ByteArray)[k]'h').toNat : Int) = sgl[k]'hl := fun h' => sg_at k hl h'
        rw [List.drop_eq_getElem_cons hl, List.any_cons] at hr
        generalize sgl[k] = x at *
        have HR := Lib.hid hr
        clear hr
        go_wp2
        · go_ret
          have hx : (x == r) = true := by assumption
          have hs : signB r = true := by rw [← HR.out, hx]; rfl
          exact ⟨ret_int (by rw [HW.out, if_pos hs]), Below.refl _ _⟩
        · have hx : (x == r) = false := by assumption
          go_round
          case rel => exact ⟨k + 1, by go_num, by omega, by rw [← HR.out, hx, Bool.false_or]⟩
          case measure => simp [intOf]; omega
      · have e1 : sgl.drop k = [] := List.drop_of_length_le (by show 12 ≤ k; omega)
        rw [e1, List.any_nil] at hr
        have HR := Lib.hid hr
        clear hr e1
        cases hn : nameB (Utf8.encode r)
        all_goals
          have HN := Lib.hid hn
          clear hn
          go_wp2_with (go_at_call 59; refine (rName_c _ _ hz).mono ?_; rintro e w1 ⟨rfl, hb1⟩; rw [HN.out])
          go_ret
          exact ⟨ret_int (by rw [HW.out, ← HR.out, HN.out]; rfl), hb1⟩

set_option maxHeartbeats 400000 in
theorem what_c (r : Int) (w : World) :
    Calls Tryd.prog 47 #[.int .i32 r] w fun e w' => e = .returned (.int .i64 (whatN r)) ∧ Below w.heap.size w w' := by
  by_cases hd : 48 ≤ r ∧ r ≤ 57
  · obtain ⟨h1, h2⟩ := hd
    have HW : Hid (whatN r = 2) := by unfold whatN; rw [if_pos ⟨h1, h2⟩]; exact id rfl
    go_enter Tryd.func47, Tryd.ntmps47
    go_wp2
    go_ret
    exact ⟨ret_int HW.out.symm, Below.refl _ _⟩
  · by_cases hb : r = 32 ∨ r = 9
    · have HW : Hid (whatN r = 4) := by unfold whatN; rw [if_neg hd, if_pos hb]; exact id rfl
      rcases hb with rfl | rfl
      all_goals
        go_enter Tryd.func47, Tryd.ntmps47
        go_wp2
        go_ret
        exact ⟨ret_int HW.out.symm, Below.refl _ _⟩
    · exact what_sign r w (by omega) (by simp; omega) (by simp; omega)

end Go.Proofs.YtlkkigpjahlloaaDoor
