/-
  Walks: ref02.Take, ref02.TakeText.
-/
import Derived.Test.YtfieoehchghiiaaD0
import Derived.Test.YtfieoehchghiiaaMB
import Derived.Deep.CutBlock
namespace Go.Proofs.Ytfieoehchghiiaa
open Go.RowKit
set_option linter.unusedVariables false
set_option linter.unusedSimpArgs false

/-- How many bytes go on, at most k. -/
def lead : Nat → List UInt8 → Nat
  | 0, _ => 0
  | _ + 1, [] => 0
  | k + 1, c :: cs => if 127 < c.toNat then lead k cs + 1 else 0
/-- What digits come to. -/
def hv : List UInt8 → Nat
  | [] => 0
  | c :: cs => c.toNat % 128 + 128 * hv cs
theorem lead_le : ∀ (k : Nat) (cs : List UInt8), lead k cs ≤ k ∧ lead k cs ≤ cs.length
  | 0, _ => ⟨Nat.le_refl _, Nat.zero_le _⟩
  | k + 1, [] => ⟨Nat.zero_le _, Nat.le_refl _⟩
  | k + 1, c :: cs => by
    have := lead_le k cs
    simp only [lead, List.length_cons]
    split <;> omega
theorem hv_lt : ∀ (cs : List UInt8), hv cs < 2 ^ (7 * cs.length)
  | [] => by decide
  | c :: cs => by
    have ih := hv_lt cs
    have e : 2 ^ (7 * (c :: cs).length) = 128 * 2 ^ (7 * cs.length) := by rw [List.length_cons, show 7 * (cs.length + 1) = 7 + 7 * cs.length by omega, Nat.pow_add]
    rw [e]
    simp only [hv]
    have := Nat.mod_lt c.toNat (show 128 > 0 by decide)
    omega
theorem hv_drop : ∀ (m : Nat) (cs : List UInt8), hv (cs.drop m) ≤ hv cs
  | 0, cs => by simp
  | m + 1, [] => by simp
  | m + 1, c :: cs => by
    have := hv_drop m cs
    simp only [List.drop_succ_cons, hv]
    omega
theorem hv_snoc : ∀ (cs : List UInt8) (c : UInt8), hv (cs ++ [c]) = hv cs + c.toNat % 128 * 2 ^ (7 * cs.length)
  | [], c => by simp [hv]
  | d :: cs, c => by
    simp only [List.cons_append, hv, hv_snoc cs c, List.length_cons]
    rw [show 7 * (cs.length + 1) = 7 + 7 * cs.length by omega, Nat.pow_add, show (2 : Nat) ^ 7 = 128 from rfl, Nat.mul_add, ← Nat.add_assoc, Nat.mul_left_comm]

theorem tk_lead : ∀ (cs : List UInt8) (i a : Nat), i ≤ 9 → tkGo i a cs =
    if 9 ≤ i + lead (10 - i) cs ∧ 1 < (cs.getD (9 - i) 0).toNat then (0, 0, 21)
    else if cs.length = lead (10 - i) cs then (0, 0, 20)
    else if 0 < i + lead (10 - i) cs ∧ (cs.getD (lead (10 - i) cs) 0).toNat = 0 then (0, 0, 21)
    else (unzig (a + hv (cs.take (lead (10 - i) cs + 1)) * 2 ^ (7 * i)), ((i + lead (10 - i) cs + 1 : Nat) : Int), 0)
  | [], i, a, hi => by
    have e : lead (10 - i) [] = 0 := by rw [show 10 - i = (9 - i) + 1 by omega]; rfl
    rw [e, if_neg (by rintro ⟨_, h⟩; simp at h)]
    rfl
  | c :: cs, i, a, hi => by
    have e : lead (10 - i) (c :: cs) = if 127 < c.toNat then lead (9 - i) cs + 1 else 0 := by rw [show 10 - i = (9 - i) + 1 by omega]; rfl
    by_cases hc : 127 < c.toNat
    · rw [e, if_pos hc]
      by_cases h9 : i = 9
      · subst h9
        simp only [tkGo]
        rw [if_pos (by constructor <;> first | trivial | omega), if_pos ⟨by omega, by show 1 < c.toNat; omega⟩]
      · simp only [tkGo]
        rw [if_neg (fun h => h9 h.1), if_pos (by omega), tk_lead cs (i + 1) _ (by omega)]
        have e1 : 10 - (i + 1) = 9 - i := by omega
        have e2 : 9 - i = (9 - (i + 1)) + 1 := by omega
        have e3 : (c :: cs).getD (9 - i) 0 = cs.getD (9 - (i + 1)) 0 := by rw [e2]; rfl
        rw [e1, e3]
        generalize lead (9 - i) cs = L
        have q1 : i + 1 + L = i + (L + 1) := by omega
        have q4 : (c :: cs).getD (L + 1) 0 = cs.getD L 0 := rfl
        have q5 : a + c.toNat % 128 * 2 ^ (7 * i) + hv (cs.take (L + 1)) * 2 ^ (7 * (i + 1)) = a + hv ((c :: cs).take (L + 1 + 1)) * 2 ^ (7 * i) := by
          rw [List.take_succ_cons]
          simp only [hv]
          rw [show 7 * (i + 1) = 7 + 7 * i by omega, Nat.pow_add, Nat.add_mul, Nat.add_assoc, show (2 : Nat) ^ 7 = 128 from rfl, ← Nat.mul_assoc, Nat.mul_comm 128]
        rw [q1, q4, q5]
        simp only [List.length_cons, Nat.add_right_cancel_iff]
    · rw [e, if_neg hc]
      simp only [tkGo]
      by_cases h9 : i = 9 ∧ 1 < c.toNat
      · rw [if_pos h9, if_pos ⟨by omega, by rw [h9.1]; exact h9.2⟩]
      · rw [if_neg h9, if_neg (by omega), if_neg (c := 9 ≤ i + 0 ∧ _) (by
          rintro ⟨h1, h3⟩
          have : i = 9 := by omega
          subst this
          exact h9 ⟨rfl, h3⟩), if_neg (c := (c :: cs).length = 0) (by simp)]
        by_cases h0 : c.toNat = 0 ∧ 0 < i
        · rw [if_pos h0, if_pos (by exact ⟨by omega, h0.1⟩)]
        · rw [if_neg h0, if_neg (by
            rintro ⟨h1, h3⟩
            exact h0 ⟨h3, by omega⟩)]
          simp [hv]

theorem lead_all : ∀ (k : Nat) (cs : List UInt8) (j : Nat), j < lead k cs → 127 < (cs.getD j 0).toNat
  | 0, cs, j, h => by simp [lead] at h
  | k + 1, [], j, h => by simp [lead] at h
  | k + 1, c :: cs, j, h => by
    simp only [lead] at h
    by_cases hc : 127 < c.toNat
    · rw [if_pos hc] at h
      cases j with
      | zero => exact hc
      | succ j => exact lead_all k cs j (by omega)
    · rw [if_neg hc] at h; omega
theorem lead_step (k : Nat) (c : UInt8) (cs : List UInt8) (h : 127 < c.toNat) : lead (k + 1) (c :: cs) = lead k cs + 1 := by simp only [lead]; rw [if_pos h]
theorem lead_stop (k : Nat) (c : UInt8) (cs : List UInt8) (h : ¬ 127 < c.toNat) : lead (k + 1) (c :: cs) = 0 := by simp only [lead]; rw [if_neg h]
theorem takeS_lead (s : ByteArray) : takeS s =
    if 9 ≤ lead 10 s.data.toList ∧ 1 < (s.data.toList.getD 9 0).toNat then (0, 0, 21)
    else if s.size = lead 10 s.data.toList then (0, 0, 20)
    else if 0 < lead 10 s.data.toList ∧ (s.data.toList.getD (lead 10 s.data.toList) 0).toNat = 0 then (0, 0, 21)
    else (unzig (hv (s.data.toList.take (lead 10 s.data.toList + 1))), ((lead 10 s.data.toList + 1 : Nat) : Int), 0) := by
  unfold takeS
  rw [tk_lead _ 0 0 (by omega), Lib.size_eq]
  simp only [Nat.zero_add, Nat.sub_zero, Nat.mul_zero, Nat.pow_zero, Nat.mul_one]
theorem hv_bound (cs : List UInt8) (h : ¬ (9 ≤ lead 10 cs ∧ 1 < (cs.getD 9 0).toNat)) : lead 10 cs ≤ 9 ∧ hv (cs.take (lead 10 cs + 1)) < 18446744073709551616 := by
  have h10 := (lead_le 10 cs).1
  have hall := lead_all 10 cs
  generalize lead 10 cs = L at *
  have hL : L ≤ 9 := by
    by_cases h1 : L ≤ 9
    · exact h1
    · have := hall 9 (by omega)
      exact absurd ⟨by omega, by omega⟩ h
  refine ⟨hL, ?_⟩
  by_cases h9 : L = 9
  · subst h9
    have hb : (cs.getD 9 0).toNat ≤ 1 := by
      by_cases h1 : (cs.getD 9 0).toNat ≤ 1
      · exact h1
      · exact absurd ⟨Nat.le_refl _, by omega⟩ h
    by_cases hl : 9 < cs.length
    · rw [List.take_succ_eq_append_getElem hl, hv_snoc]
      have h1 := hv_lt (cs.take 9)
      have h2 : (cs.take 9).length = 9 := by rw [List.length_take]; omega
      have h3 : cs.getD 9 0 = cs[9] := by simp [List.getD_eq_getElem?_getD, hl]
      rw [h3] at hb
      rw [h2] at h1 ⊢
      have h4 : cs[9].toNat % 128 ≤ 1 := by omega
      have e : (2 : Nat) ^ (7 * 9) = 9223372036854775808 := by decide
      rw [e] at h1 ⊢
      omega
    · rw [List.take_of_length_le (by omega)]
      have h1 := hv_lt cs
      have : 2 ^ (7 * cs.length) ≤ 2 ^ (7 * 9) := Nat.pow_le_pow_right (by omega) (by omega)
      have e : (2 : Nat) ^ (7 * 9) = 9223372036854775808 := by decide
      omega
  · have h1 := hv_lt (cs.take (L + 1))
    have h2 : (cs.take (L + 1)).length ≤ 9 := by rw [List.length_take]; omega
    have : 2 ^ (7 * (cs.take (L + 1)).length) ≤ 2 ^ (7 * 9) := Nat.pow_le_pow_right (by omega) (by omega)
    have e : (2 : Nat) ^ (7 * 9) = 9223372036854775808 := by decide
    omega
theorem getD_at (s : ByteArray) (k : Nat) (h : k < s.size) : (s.data.toList.getD k 0) = s[k] := by
  have h' : k < s.data.toList.length := by rw [← Lib.size_eq]; exact h
  rw [List.getD_eq_getElem?_getD, List.getElem?_eq_getElem h']
  rfl
theorem getD_out (s : ByteArray) (k : Nat) (h : ¬ k < s.size) : (s.data.toList.getD k 0) = 0 := by
  have h' : s.data.toList.length ≤ k := by rw [← Lib.size_eq]; omega
  rw [List.getD_eq_getElem?_getD, List.getElem?_eq_none h']
  rfl

set_option maxRecDepth 20000 in
set_option maxHeartbeats 4000000 in
theorem rTake_c (s : ByteArray) (hs : s.size ≤ 140737488355328) (w : World) : Calls Try.prog 87 #[.string s] w fun e w' => e = .returned (.tuple #[.int .i64 (takeS s).1, .int .i64 (takeS s).2.1, .int .i64 (takeS s).2.2]) ∧ w = w' := by
  have HT := Lib.hid (takeS_lead s)
  have HB := Lib.hid (hv_bound s.data.toList)
  obtain ⟨L, hL⟩ : ∃ L, lead 10 s.data.toList = L := ⟨_, rfl⟩
  have hle := lead_le 10 s.data.toList
  rw [← Lib.size_eq] at hle
  have HL := Lib.hid hL
  rw [hL] at HT HB hle
  clear hL
  obtain ⟨hL10, hLs⟩ := hle
  generalize takeS s = R at *
  go_enter Try.func87, Try.ntmps87
  go_upto_block 0 with fail
  go_cut [5] (fun q wx => q = .int .i64 (L : Int) ∧ w = wx)
  case first =>
    go_wp2_with fail
    go_loopw [5] (fun q wx => ∃ k : Nat, q = .int .i64 (k : Int) ∧ wx = w ∧ k ≤ 10 ∧ k ≤ s.size ∧ k + lead (10 - k) (s.data.toList.drop k) = L) (fun q _ => 10 - (intOf q).toNat)
    case atStart => exact ⟨0, rfl, rfl, by omega, Nat.zero_le _, by rw [Nat.zero_add]; exact HL.out⟩
    case round =>
      obtain ⟨k, rfl, rfl, hk, hks, hkl⟩ := hrel
      by_cases hlt : k < s.size
      · have hd1 : decide ((k : Int) < (s.size : Int)) = true := decide_eq_true (by omega)
        by_cases h10 : k < 10
        · have hd2 : decide ((k : Int) < 10) = true := decide_eq_true (by omega)
          have hd : s.data.toList.drop k = s[k] :: s.data.toList.drop (k + 1) := List.drop_eq_getElem_cons (by rw [← Lib.size_eq]; exact hlt)
          rw [hd, show 10 - k = (10 - (k + 1)) + 1 by omega] at hkl
          have hc8 : (s[k]).toNat < 256 := (s[k]).toNat_lt
          generalize hcc : s[k] = c at *
          clear hd
          by_cases hc : 127 < c.toNat
          · have hd3 : decide ((127 : Int) < (c.toNat : Int)) = true := decide_eq_true (by omega)
            rw [lead_step _ _ _ hc] at hkl
            have HK := Lib.hid hkl
            clear hkl
            go_wp2_with fail
            go_roundw
            case rel => exact ⟨k + 1, by go_num, trivial, by omega, by omega, by have := HK.out; omega⟩
            case measure => simp [intOf]; omega
          · have hd3 : decide ((127 : Int) < (c.toNat : Int)) = false := decide_eq_false (by omega)
            rw [lead_stop _ _ _ hc, Nat.add_zero] at hkl
            subst hkl
            go_wp2_with fail
            go_meet
            exact ⟨rfl, rfl⟩
        · have hd2 : decide ((k : Int) < 10) = false := decide_eq_false (by omega)
          obtain rfl : k = 10 := by omega
          rw [show lead (10 - 10) (s.data.toList.drop 10) = 0 from rfl] at hkl
          subst hkl
          go_wp2_with fail
          go_meet
          exact ⟨rfl, rfl⟩
      · have hd1 : decide ((k : Int) < (s.size : Int)) = false := decide_eq_false (by omega)
        have hdn : s.data.toList.drop k = [] := List.drop_of_length_le (by rw [← Lib.size_eq]; omega)
        have hz : lead (10 - k) [] = 0 := by cases 10 - k <;> rfl
        rw [hdn, hz, Nat.add_zero] at hkl
        subst hkl
        go_wp2_with fail
        go_meet
        exact ⟨rfl, rfl⟩
  case rest =>
    obtain ⟨rfl, rfl⟩ := hcut
    have hg9 : 9 < s.size → s.data.toList.getD 9 0 = s[9]! := fun h => by rw [getD_at s 9 h]; exact (getElem!_pos s 9 h).symm
    go_upto_region 4 with fail
    go_cut [36] (fun q wx => q = .bool (decide (9 ≤ L ∧ 1 < (s.data.toList.getD 9 0).toNat)) ∧ w = wx)
    case first =>
      by_cases h9 : 9 ≤ L
      · have hd1 : decide ((9 : Int) ≤ (L : Int)) = true := decide_eq_true (by omega)
        have hd1' : decide ((L : Int) < 9) = false := decide_eq_false (by omega)
        by_cases hz : 9 < s.size
        · have hd2 : decide ((9 : Int) < (s.size : Int)) = true := decide_eq_true (by omega)
          have hgd := getD_at s 9 hz
          have hc8 : (s[9]).toNat < 256 := (s[9]).toNat_lt
          generalize hcc : s[9] = c at *
          by_cases hc : 1 < c.toNat
          · have hd3 : decide ((1 : Int) < (c.toNat : Int)) = true := decide_eq_true (by omega)
            have hd4 : decide (9 ≤ L ∧ 1 < c.toNat) = true := decide_eq_true ⟨h9, hc⟩
            have HD4 : Hid (decide (9 ≤ L ∧ 1 < (s.data.toList.getD 9 0).toNat) = decide (9 ≤ L ∧ 1 < c.toNat)) := by show _ = _; rw [hgd]
            clear hg9 hgd
            go_wp2_with fail
            go_meet
            exact ⟨by rw [HD4.out, hd4], rfl⟩
          · have hd3 : decide ((1 : Int) < (c.toNat : Int)) = false := decide_eq_false (by omega)
            have hd4 : decide (9 ≤ L ∧ 1 < c.toNat) = false := decide_eq_false (fun h => hc h.2)
            have HD4 : Hid (decide (9 ≤ L ∧ 1 < (s.data.toList.getD 9 0).toNat) = decide (9 ≤ L ∧ 1 < c.toNat)) := by show _ = _; rw [hgd]
            clear hg9 hgd
            go_wp2_with fail
            go_meet
            exact ⟨by rw [HD4.out, hd4], rfl⟩
        · have hd2 : decide ((9 : Int) < (s.size : Int)) = false := decide_eq_false (by omega)
          have hd4 : decide (9 ≤ L ∧ 1 < (s.data.toList.getD 9 0).toNat) = false := decide_eq_false (by rw [getD_out s 9 hz]; simp)
          have HD4 := Lib.hid hd4
          clear hd4 hg9
          go_wp2_with fail
          go_meet
          exact ⟨by rw [HD4.out], rfl⟩
      · have hd1 : decide ((9 : Int) ≤ (L : Int)) = false := decide_eq_false (by omega)
        have hd1' : decide ((L : Int) < 9) = true := decide_eq_true (by omega)
        have hd4 : decide (9 ≤ L ∧ 1 < (s.data.toList.getD 9 0).toNat) = false := decide_eq_false (fun h => h9 h.1)
        have HD4 := Lib.hid hd4
        clear hd4 hg9
        go_wp2_with fail
        go_meet
        exact ⟨by rw [HD4.out], rfl⟩
    case rest =>
      obtain ⟨rfl, rfl⟩ := hcut
      by_cases hA : 9 ≤ L ∧ 1 < (s.data.toList.getD 9 0).toNat
      · have HR : Hid (R = (0, 0, 21)) := by show _ = _; rw [HT.out, if_pos hA]
        rw [decide_eq_true hA]
        go_wp2_with fail
        go_ret3
        exact ⟨by rw [HR.out]; rfl, rfl⟩
      · obtain ⟨hL9, hb⟩ := HB.out hA
        rw [decide_eq_false hA]
        have HT2 := HT.out
        rw [if_neg hA] at HT2
        clear HT HB hA hg9
        by_cases hsz : s.size = L
        · rw [if_pos hsz] at HT2
          have HR := Lib.hid HT2
          have hd1 : ((L : Int) == (s.size : Int)) = true := by rw [beq_iff_eq]; omega
          clear HT2
          go_wp2_with fail
          go_ret3
          exact ⟨by rw [HR.out]; rfl, rfl⟩
        · rw [if_neg hsz] at HT2
          have hd1 : ((L : Int) == (s.size : Int)) = false := by rw [beq_eq_false_iff_ne]; omega
          have hlt : L < s.size := by omega
          have hgd := getD_at s L hlt
          have hc8 : (s[L]).toNat < 256 := (s[L]).toNat_lt
          rw [hgd] at HT2
          generalize hcc : s[L] = c at *
          clear hgd
          go_upto_region 8 with fail
          go_cut [48] (fun q wx => q = .bool (decide (0 < L ∧ c.toNat = 0)) ∧ w = wx)
          case first =>
            by_cases h0 : 0 < L
            · have hd2 : decide ((0 : Int) < (L : Int)) = true := decide_eq_true (by omega)
              by_cases hc : c.toNat = 0
              · have hd3 : ((c.toNat : Int) == 0) = true := by rw [beq_iff_eq]; omega
                have HD4 := Lib.hid (decide_eq_true (⟨h0, hc⟩ : 0 < L ∧ c.toNat = 0))
                clear hc
                go_wp2_with fail
                go_meet
                exact ⟨by rw [HD4.out], rfl⟩
              · have hd3 : ((c.toNat : Int) == 0) = false := by rw [beq_eq_false_iff_ne]; omega
                have HD4 := Lib.hid (decide_eq_false (fun h => hc h.2 : ¬ (0 < L ∧ c.toNat = 0)))
                go_wp2_with fail
                go_meet
                exact ⟨by rw [HD4.out], rfl⟩
            · have hd2 : decide ((0 : Int) < (L : Int)) = false := decide_eq_false (by omega)
              have HD4 := Lib.hid (decide_eq_false (fun h => h0 h.1 : ¬ (0 < L ∧ c.toNat = 0)))
              go_wp2_with fail
              go_meet
              exact ⟨by rw [HD4.out], rfl⟩
          case rest =>
            obtain ⟨rfl, rfl⟩ := hcut
            by_cases hA : 0 < L ∧ c.toNat = 0
            · rw [if_pos hA] at HT2
              rw [decide_eq_true hA]
              have HR := Lib.hid HT2
              clear HT2
              go_wp2_with fail
              go_ret3
              exact ⟨by rw [HR.out]; rfl, rfl⟩
            · rw [if_neg hA] at HT2
              rw [decide_eq_false hA]
              have HR := Lib.hid HT2
              have HDR : Hid (∀ j, j ≤ L → ∃ h : j < s.size, (s.data.toList.take (L + 1)).drop j = s[j] :: (s.data.toList.take (L + 1)).drop (j + 1)) := fun j hj => by
                refine ⟨by omega, ?_⟩
                have hjl : j < (s.data.toList.take (L + 1)).length := by rw [List.length_take, ← Lib.size_eq]; omega
                rw [List.drop_eq_getElem_cons hjl, List.getElem_take]
                rfl
              have HVB : Hid (∀ j, hv ((s.data.toList.take (L + 1)).drop j) < 18446744073709551616) := fun j => Nat.lt_of_le_of_lt (hv_drop j _) hb
              have HVE : Hid ((s.data.toList.take (L + 1)).drop (L + 1) = []) := List.drop_of_length_le (by rw [List.length_take]; omega)
              generalize s.data.toList.take (L + 1) = ds at *
              clear HT2 hA hb
              go_wp2_with fail
              go_loopw [6, 7] (fun u q wx => ∃ (m : Nat) (i : Int), q = .int .i64 i ∧ u = .int .u64 ((hv (ds.drop m) : Nat) : Int) ∧ wx = w ∧ i = (m : Int) - 1 ∧ m ≤ L + 1) (fun _ q _ => (intOf q + 1).toNat)
              case atStart => exact ⟨L + 1, (L : Int), rfl, by rw [HVE.out]; rfl, rfl, by omega, Nat.le_refl _⟩
              case round =>
                obtain ⟨m, i, rfl, rfl, rfl, him, hm⟩ := hrel
                cases m with
                | zero =>
                  have hd4 : decide ((0 : Int) ≤ i) = false := decide_eq_false (by omega)
                  have hd5 : decide (i < (0 : Int)) = true := decide_eq_true (by omega)
                  have hvb := HVB.out 0
                  rw [List.drop_zero] at hvb ⊢
                  generalize hv ds = U at *
                  have hw1 : IntKind.i64.wrap ((U : Int) / 2) = (U : Int) / 2 := by simp only [IntKind.wrap, IntKind.bits, IntKind.signed]; simp; omega
                  have HU : Hid (unzig U = if U % 2 = 0 then ((U / 2 : Nat) : Int) else -((U / 2 : Nat) : Int) - 1) := rfl
                  have hU2 : (U : Int) / 2 ≤ 9223372036854775807 := by omega
                  have hU0 : 0 ≤ (U : Int) / 2 := by omega
                  clear hvb him
                  by_cases hod : U % 2 = 1
                  · have hd6 : ((U : Int) % 2 == 1) = true := by rw [beq_iff_eq]; omega
                    have HU3 : Hid (unzig U = -((U : Int) / 2) - 1) := by show _ = _; rw [HU.out, if_neg (by omega)]; omega
                    clear hod
                    go_wp2_with fail
                    go_ret3
                    exact ⟨by rw [HR.out]; dsimp only; rw [HU3.out]; rfl, rfl⟩
                  · have hd6 : ((U : Int) % 2 == 1) = false := by rw [beq_eq_false_iff_ne]; omega
                    have HU3 : Hid (unzig U = ((U : Int) / 2)) := by show _ = _; rw [HU.out, if_pos (by omega)]; omega
                    clear hod
                    go_wp2_with fail
                    go_ret3
                    exact ⟨by rw [HR.out]; dsimp only; rw [HU3.out]; rfl, rfl⟩
                | succ j =>
                  obtain rfl : i = (j : Int) := by omega
                  have hd4 : decide ((0 : Int) ≤ (j : Int)) = true := decide_eq_true (by omega)
                  obtain ⟨hjs, hdr⟩ := HDR.out j (by omega)
                  have hvb := HVB.out j
                  have HD := Lib.hid hdr
                  rw [hdr] at hvb
                  simp only [hv] at hvb
                  have hc9 : (s[j]).toNat < 256 := (s[j]).toNat_lt
                  generalize hcj : s[j] = cj at *
                  generalize hU : hv (ds.drop (j + 1)) = U at *
                  have HHU := Lib.hid hU
                  have hw1 : IntKind.u64.wrap (128 * (U : Int)) = 128 * (U : Int) := by rw [wrap_u64B]; omega
                  have hw2 : IntKind.u64.wrap (128 * (U : Int) + (cj.toNat : Int) % 128) = 128 * (U : Int) + (cj.toNat : Int) % 128 := by rw [wrap_u64B]; omega
                  have HV : Hid (hv (ds.drop j) = cj.toNat % 128 + 128 * U) := by show _ = _; rw [HD.out]; simp only [hv]; rw [HHU.out]
                  clear hvb hdr hU him
                  go_wp2_with fail
                  go_roundw
                  case rel => exact ⟨j, (j : Int) - 1, by go_num, by rw [HV.out]; congr 1; omega, trivial, by omega, by omega⟩
                  case measure => simp [intOf]

set_option maxHeartbeats 1000000 in
theorem rTakeText_c (s : ByteArray) (hs : s.size ≤ 140737488355328) (w : World) : Calls Try.prog 88 #[.string s] w fun e w' => e = .returned (.tuple #[.string (takeT s).1, .int .i64 (takeT s).2.1, .int .i64 (takeT s).2.2]) ∧ w = w' := by
  have HE : Hid (takeT s = if (takeS s).2.2 ≠ 0 then (.empty, 0, (takeS s).2.2) else if (takeS s).1 < 0 then (.empty, 0, 21) else if 65536 < (takeS s).1 then (.empty, 0, 3)
    else if (s.size : Int) < (takeS s).2.1 + (takeS s).1 then (.empty, 0, 20) else (s.extract (takeS s).2.1.toNat ((takeS s).2.1.toNat + (takeS s).1.toNat), (takeS s).2.1 + (takeS s).1, 0)) := rfl
  have HTK : Hid (∀ W : World, Calls Try.prog 87 #[.string s] W fun e w' => e = .returned (.tuple #[.int .i64 (takeS s).1, .int .i64 (takeS s).2.1, .int .i64 (takeS s).2.2]) ∧ W = w') := fun W => rTake_c s hs W
  have hback : (takeS s).2.2 = 0 → ∃ k : Nat, (takeS s).2.1 = (k : Int) ∧ k ≤ s.size ∧ -9223372036854775808 ≤ (takeS s).1 ∧ (takeS s).1 ≤ 9223372036854775807 := fun h => by
    have e : tkGo 0 0 s.data.toList = ((takeS s).1, (takeS s).2.1, 0) := by rw [← h]; rfl
    obtain ⟨k, h1, h2, _, _, h5, h6⟩ := take_back e
    exact ⟨k, h1, by rw [← Lib.size_eq] at h2; exact h2, h5, h6⟩
  generalize takeT s = R at *
  generalize takeS s = q at *
  obtain ⟨n, sz, er⟩ := q
  dsimp only at HE HTK hback
  by_cases he : er = 0
  · subst he
    obtain ⟨k, rfl, hk, hn1, hn2⟩ := hback rfl
    have HE2 := HE.out
    rw [if_neg (by simp)] at HE2
    clear HE hback
    by_cases c1 : n < 0
    · rw [if_pos c1] at HE2
      have HR := Lib.hid HE2
      clear HE2
      have d1 : decide (n < 0) = true := decide_eq_true c1
      go_enter Try.func88, Try.ntmps88
      go_wp2_with fail
      refine (HTK.out _).mono ?_
      rintro e w1 ⟨rfl, rfl⟩
      go_wp2_with fail
      go_ret3
      rw [HR.out]
      exact ⟨rfl, rfl⟩
    · rw [if_neg c1] at HE2
      have d1 : decide (n < 0) = false := decide_eq_false c1
      by_cases c2 : 65536 < n
      · rw [if_pos c2] at HE2
        have HR := Lib.hid HE2
        clear HE2
        have d2 : decide (65536 < n) = true := decide_eq_true c2
        go_enter Try.func88, Try.ntmps88
        go_wp2_with fail
        refine (HTK.out _).mono ?_
        rintro e w1 ⟨rfl, rfl⟩
        go_wp2_with fail
        go_ret3
        rw [HR.out]
        exact ⟨rfl, rfl⟩
      · rw [if_neg c2] at HE2
        obtain ⟨m, rfl⟩ : ∃ m : Nat, n = (m : Int) := ⟨n.toNat, by omega⟩
        by_cases c3 : (s.size : Int) < (k : Int) + (m : Int)
        · rw [if_pos c3] at HE2
          have HR := Lib.hid HE2
          clear HE2
          have d2 : ¬ (65536 : Int) < (m : Int) := c2
          have d3 : decide ((s.size : Int) < (k : Int) + (m : Int)) = true := decide_eq_true c3
          go_enter Try.func88, Try.ntmps88
          go_wp2_with fail
          refine (HTK.out _).mono ?_
          rintro e w1 ⟨rfl, rfl⟩
          go_wp2_with fail
          go_ret3
          rw [HR.out]
          exact ⟨rfl, rfl⟩
        · rw [if_neg c3] at HE2
          have HR := Lib.hid HE2
          clear HE2
          have d2 : ¬ (65536 : Int) < (m : Int) := c2
          have d3 : decide ((s.size : Int) < (k : Int) + (m : Int)) = false := decide_eq_false c3
          have d4 : k + m ≤ s.size := by omega
          have d5 : (k : Int) + (m : Int) ≤ (s.size : Int) := by omega
          go_enter Try.func88, Try.ntmps88
          go_wp2_with fail
          refine (HTK.out _).mono ?_
          rintro e w1 ⟨rfl, rfl⟩
          go_wp2_with fail
          go_ret3
          rw [HR.out]
          exact ⟨rfl, rfl⟩
  · have HE2 := HE.out
    rw [if_pos he] at HE2
    have HR := Lib.hid HE2
    clear HE HE2 hback
    have d1 : (er != 0) = true := by simpa using he
    go_enter Try.func88, Try.ntmps88
    go_wp2_with fail
    refine (HTK.out _).mono ?_
    rintro e w1 ⟨rfl, rfl⟩
    go_wp2_with fail
    go_ret3
    rw [HR.out]
    exact ⟨rfl, rfl⟩

end Go.Proofs.Ytfieoehchghiiaa
