/-
  Walks: ref02.one, ref02.Put, ref02.PutText.
-/
import Derived.Test.YtfieoehchghiiaaC1
namespace Go.Proofs.Ytfieoehchghiiaa
open Go.RowKit
set_option linter.unusedVariables false
set_option linter.unusedSimpArgs false

theorem own_new1 (w : World) (e : TypeId) (x : Value) : (w.alloc (.cells #[x] e)).ownsRow w.heap.size e 1 (.slice (some ⟨w.heap.size, 0, none⟩) 1 1) 1 [x] :=
  ⟨rfl, .inr ⟨w.heap.size, 1, #[x], rfl, Nat.le_refl _, heap_alloc_new w _, Nat.le_refl _, by decide, rfl, rfl⟩⟩
theorem wrap_u64B (n : Int) : IntKind.u64.wrap n = n % 18446744073709551616 := by simp [IntKind.wrap, IntKind.bits, IntKind.signed]

set_option maxHeartbeats 2000000 in
theorem conv1 (w : World) (n : Nat) (hn : n < 256) (x : Int) (hx : x = (n : Int)) :
    (convert 108 9 (.slice (some ⟨w.heap.size, 0, none⟩) 1 1)).run Try.prog (w.alloc (.cells #[.int .u8 x] 5)) = .ok (.string (bstr [UInt8.ofNat n])) (w.alloc (.cells #[.int .u8 x] 5)) := by
  subst hx
  have e : byteV (UInt8.ofNat n) = .int .u8 (n : Int) := by
    unfold byteV
    congr 1
    have : (UInt8.ofNat n).toNat = n := by simp; omega
    rw [this]
  have h := own_new1 w 5 (.int .u8 (n : Int))
  have := conv_own (bs := [UInt8.ofNat n]) (m := 1) (base := w.heap.size) (w := w.alloc (.cells #[.int .u8 (n : Int)] 5)) (v := .slice (some ⟨w.heap.size, 0, none⟩) 1 1) (by rw [List.map_cons, List.map_nil, e]; exact h)
  exact this

set_option maxRecDepth 20000 in
set_option maxHeartbeats 1000000 in
theorem one_c (n : Int) (h1 : -9223372036854775808 ≤ n) (h2 : n ≤ 9223372036854775807) (w : World) :
    Calls Try.prog 86 #[.int .i64 n] w fun e w' => e = .returned (.string (bstr (putN n))) ∧ Below w.heap.size w w' := by
  have hz := zig_lt n h1 h2
  have hl := putN_len n h1 h2
  have HP : Hid (putN n = vby (zig n)) := rfl
  obtain ⟨z, hzz⟩ : ∃ z, zig n = z := ⟨_, rfl⟩
  have hzn : (0 ≤ n ∧ (z : Int) = 2 * n) ∨ (n < 0 ∧ (z : Int) = -2 * n - 1) := by
    rw [← hzz]; unfold zig
    by_cases h : 0 ≤ n
    · rw [if_pos h]; omega
    · rw [if_neg h]; omega
  rw [hzz] at HP hz
  clear hzz
  generalize putN n = P at *
  have hcs : (n < 0 ∧ decide (n < 0) = true) ∨ (0 ≤ n ∧ decide (n < 0) = false) := by
    by_cases h : n < 0
    · exact .inl ⟨h, decide_eq_true h⟩
    · exact .inr ⟨by omega, decide_eq_false h⟩
  rcases hcs with ⟨hng, hn0⟩ | ⟨hng, hn0⟩
  all_goals
    go_enter Try.func86, Try.ntmps86
    go_wp2_with fail
    go_loopw [3, 4] (fun s3 s4 wr => ∃ (U : Nat) (q : List UInt8), s3 = .int .u64 (U : Int) ∧ s4 = .string (bstr q) ∧ q ++ vby U = P ∧ U < 18446744073709551616 ∧ Below w.heap.size w wr) (fun s3 _ _ => (intOf s3).toNat)
    case atStart => exact ⟨z, [], by congr 1; first | omega | (simp only [wrap_u64B]; omega), rfl, HP.out.symm, hz, Below.refl _ _⟩
    case round =>
      obtain ⟨U, q, rfl, rfl, hq, hU, hB⟩ := hrel
      have hql : q.length ≤ 10 := by rw [← hq, List.length_append] at hl; omega
      have hqz : (bstr q).size ≤ 10 := by rw [bstr_size]; exact hql
      have HU := Lib.hid hU
      have HQ := Lib.hid hq
      clear hU hq h1 h2 hz hzn hl
      by_cases h128 : 127 < U
      · have hd : decide ((127 : Int) < (U : Int)) = true := decide_eq_true (by omega)
        have hcv := conv1 wr (U % 128 + 128) (by omega) ((U : Int) % 128 + 128) (by omega)
        have HV := Lib.hid (vby_ge (by omega : ¬ U < 128))
        have hwr : IntKind.u64.wrap ((U : Int) / 128) = (U : Int) / 128 := by have := HU.out; rw [wrap_u64B]; omega
        generalize UInt8.ofNat (U % 128 + 128) = b at *
        have hap := bstr_app q [b]
        have h1z : (bstr [b]).size = 1 := by rw [bstr_size]; rfl
        have hB2 := hB.alloc hB.size (.cells #[.int .u8 ((U : Int) % 128 + 128)] 5)
        go_wp2_with fail
        go_roundw
        case rel => exact ⟨U / 128, q ++ [b], by congr 1, rfl, by rw [← HQ.out, HV.out, List.append_assoc]; rfl, by have := HU.out; omega, hB2⟩
        case measure => simp only [intOf]; omega
      · have hd : decide ((127 : Int) < (U : Int)) = false := decide_eq_false (by omega)
        have hcv := conv1 wr U (by omega) (U : Int) (by omega)
        have HV := Lib.hid (vby_lt (by omega : U < 128))
        generalize UInt8.ofNat U = b at *
        have hap := bstr_app q [b]
        have h1z : (bstr [b]).size = 1 := by rw [bstr_size]; rfl
        have hB2 := hB.alloc hB.size (.cells #[.int .u8 (U : Int)] 5)
        go_wp2_with fail
        go_ret
        exact ⟨by show Ending.returned (Value.string (bstr (q ++ [b]))) = _; rw [← HQ.out, HV.out], hB2⟩

set_option maxHeartbeats 1000000 in
theorem rPut_c (l : List Int) (n : Nat) (v : Value) (B : Nat) (w : World) (h : Sl w B 1 v n (l.map (Value.int .i64))) (hn : l.length = n) (hB : B ≤ w.heap.size) (hr : ∀ z ∈ l, -9223372036854775808 ≤ z ∧ z ≤ 9223372036854775807) (hl : n ≤ 1000) :
    Calls Try.prog 56 #[v] w fun e w' => e = .returned (.string (bstr (putL l))) ∧ Below w.heap.size w w' := by
  obtain ⟨_, a, cap, rfl, hc1, hm1, _⟩ := id h
  have H := Lib.hid h
  have HR := Lib.hid hr
  have HN := Lib.hid hn
  clear h hr hn hc1 hm1
  rename_i hx1 hx2
  clear hx1 hx2
  go_enter Try.func56, Try.ntmps56
  go_wp2_with fail
  go_loopw [3, 4] (fun s3 s4 wr => ∃ k : Nat, s4 = .int .i64 (k : Int) ∧ s3 = .string (bstr (putL (l.take k))) ∧ k ≤ n ∧ Below w.heap.size w wr) (fun _ s4 _ => n - (intOf s4).toNat)
  case atStart => exact ⟨0, rfl, rfl, Nat.zero_le _, Below.refl _ _⟩
  case round =>
    obtain ⟨k, rfl, rfl, hk, hb⟩ := hrel
    by_cases hlt : k < n
    · have hkl : k < l.length := by rw [HN.out]; exact hlt
      obtain ⟨b, off, cp, e1, hbB, g1, p0⟩ := ((H.out.mono hB).below hb).int k hlt
      simp only [Value.slice.injEq, true_and] at e1
      obtain ⟨rfl, rfl⟩ := e1
      have hir := HR.out _ (List.getElem_mem g1)
      have HT := Lib.hid (putL_take l k hkl)
      have hz1 := putN_len _ hir.1 hir.2
      have hz2 : (putL (l.take k)).length ≤ 10000 := by
        have := putL_len (l.take k) (fun z hz => HR.out z (List.mem_of_mem_take hz))
        rw [List.length_take] at this
        omega
      have hz3 : (bstr (putL (l.take k))).size ≤ 10000 := by rw [bstr_size]; exact hz2
      have hz4 : (bstr (putN l[k])).size ≤ 10 := by rw [bstr_size]; exact hz1
      have hap := bstr_app (putL (l.take k)) (putN l[k])
      generalize l[k] = z at *
      generalize putL (l.take k) = q at *
      clear hz1 hz2
      go_wp2_with (go_at_call 86; refine (one_c z hir.1 hir.2 _).mono ?_; rintro e w1 ⟨rfl, hb1⟩)
      go_roundw
      case rel => exact ⟨k + 1, by go_num, by rw [HT.out], by omega, hb.trans (hb1.mono hb.size)⟩
      case measure => simp only [intOf]; omega
    · have hkn : k = n := by omega
      subst hkn
      have hlt : l.take k = l := List.take_of_length_le (by rw [HN.out]; exact Nat.le_refl _)
      rw [hlt]
      clear hlt
      go_wp2_with fail
      go_ret
      exact ⟨rfl, hb⟩

set_option maxHeartbeats 1000000 in
theorem rPutText_c (u : ByteArray) (hu : u.size ≤ 65536) (w : World) : Calls Try.prog 57 #[.string u] w fun e w' => e = .returned (.tuple #[.string (bstr (txtL u)), .int .i64 0]) ∧ Below w.heap.size w w' := by
  have hg : decide ((65536 : Int) < (u.size : Int)) = false := decide_eq_false (by omega)
  have hz1 : (bstr (putN (u.size : Int))).size ≤ 10 := by rw [bstr_size]; exact putN_len _ (by omega) (by omega)
  have hap : bstr (putN (u.size : Int)) ++ u = bstr (txtL u) := by
    have h := bstr_app (putN (u.size : Int)) u.data.toList
    rw [show bstr u.data.toList = u from by apply ByteArray.ext; simp [bstr]] at h
    exact h
  go_enter Try.func57, Try.ntmps57
  go_wp2_with (go_at_call 86; refine (one_c (u.size : Int) (by omega) (by omega) _).mono ?_; rintro e w1 ⟨rfl, hb1⟩)
  go_ret2
  exact ⟨rfl, hb1⟩

end Go.Proofs.Ytfieoehchghiiaa
