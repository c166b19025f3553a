/-
  The walks of PackKnown, PackBack, PackShort.
-/
import Derived.Test.YtfieoehchghiiaaCC
import Derived.Test.YtfieoehchghiiaaJ1
import Derived.Test.YtfieoehchghiiaaJ10
namespace Go.Proofs.Ytfieoehchghiiaa
open Go.RowKit
set_option linter.unusedVariables false
set_option linter.unusedSimpArgs false

theorem take_empty : (takeJ { data := #[] }).2 = 20 := by kernel_rfl
theorem take_22 : (takeJ { data := #[2, 2] }).2 = 20 := by kernel_rfl
theorem put_none : (⟨0, []⟩ : Jb).putR = ([], 2) := by kernel_rfl
theorem none_ok : (⟨0, []⟩ : Jb).ok := ⟨by decide, by decide, by simp⟩
theorem none_at (w : World) (B : Nat) : JbAt w B (.agg #[.int .i64 0, .slice none 0 0]) ⟨0, []⟩ := ⟨_, rfl, none, 0, rfl, Nat.le_refl _, Nat.zero_le _, .inl rfl⟩

set_option maxHeartbeats 2000000 in
theorem PackKnown_c (w : World) : Calls Try.prog 4 #[] w fun e w' => e = .returned (.bool true) ∧ Below w.heap.size w w' := by
  go_enter Try.func4, Try.ntmps4
  go_wp2_with fail
  refine (packTake_c { data := #[] } (by decide) w).mono ?_
  rintro e w1 ⟨v, rfl, hv, hb1⟩
  rw [take_empty]
  rw [takeJ_err _ (by rw [take_empty]; decide)] at hv
  obtain ⟨sv, rfl, a, cap, rfl, _, _⟩ := hv
  dsimp only
  have hb1' := hb1.alloc hb1.size (.cells #[.int .i64 0, .slice a 0 cap] 24)
  go_upto_region 2 with fail
  clear hb1
  have hz1 : w.heap.size ≤ (w1.alloc (.cells #[.int .i64 0, .slice a 0 cap] 24)).heap.size := hb1'.size
  generalize w1.alloc _ = W1 at *
  go_wp2_with fail
  refine (packTake_c { data := #[2, 2] } (by decide) W1).mono ?_
  rintro e w2 ⟨v, rfl, hv, hb2⟩
  rw [take_22]
  rw [takeJ_err _ (by rw [take_22]; decide)] at hv
  obtain ⟨sv, rfl, a2, cap2, rfl, _, _⟩ := hv
  dsimp only
  have hb2' := (hb1'.trans (hb2.mono hz1)).alloc (Nat.le_trans hz1 hb2.size) (.cells #[.int .i64 0, .slice a2 0 cap2] 24)
  go_upto_region 3 with fail
  clear hb2 hb1'
  have hz2 : w.heap.size ≤ (w2.alloc (.cells #[.int .i64 0, .slice a2 0 cap2] 24)).heap.size := hb2'.size
  generalize w2.alloc _ = W2 at *
  go_wp2_with fail
  refine (PackPut_c ⟨0, []⟩ none_ok _ _ W2 (none_at W2 W2.heap.size) (Nat.le_refl _)).mono ?_
  rintro e w3 ⟨rfl, hb3⟩
  rw [put_none]
  go_wp2_with fail
  refine (pworks_c w3).mono ?_
  rintro e w4 ⟨rfl, hb4⟩
  go_wp2_with fail
  go_ret
  exact ⟨rfl, (hb2'.trans (hb3.mono hz2)).trans (hb4.mono (Nat.le_trans hz2 hb3.size))⟩

theorem putR_at {j : Jb} {w : World} {B : Nat} {v : Value} (h : JbAt w B v j) : ∃ a n cap, v = .agg #[.int .i64 j.par, .slice a n cap] := by
  obtain ⟨sv, rfl, a, cap, rfl, _⟩ := h
  exact ⟨_, _, _, rfl⟩
theorem beq_str (s t : ByteArray) : (s.toList == t.toList) = decide (s = t) := by
  by_cases h : s = t
  · subst h; simp
  · rw [decide_eq_false h, beq_eq_false_iff_ne]
    intro e
    rw [ByteArray.toList_eq, ByteArray.toList_eq] at e
    exact h (by rw [← bstr_of s, ← bstr_of t, e])

set_option maxHeartbeats 4000000 in
theorem PackBack_c (w : World) (jb : Jb) (v : Value) (gx : JbAt w w.heap.size v jb) (kx : jb.ok) (s : ByteArray) (hs : s.size ≤ 140737488351232) :
    Calls Try.prog 10 #[v, .string s] w fun e w' => e = .returned (.bool true) ∧ Below w.heap.size w w' := by
  have GX := Lib.hid gx
  obtain ⟨a, n, cap, rfl⟩ := putR_at gx
  have hW := (Below.refl w.heap.size w).alloc (Nat.le_refl _) (.cells #[.int .i64 jb.par, .slice a n cap] 24)
  have hb1 := Blk.new w #[.int .i64 jb.par, .slice a n cap] 24
  clear gx
  cases hh : jb.heavyB
  · have HH := Lib.hid hh
    clear hh
    by_cases hsz : 20000 < s.size
    · have hszd : decide ((20000 : Int) < (s.size : Int)) = true := decide_eq_true (by omega)
      go_enter Try.func10, Try.ntmps10
      go_wp2_with fail
      generalize World.alloc w _ = W at *
      have n0 := hb1.cell 0
      have n1 := hb1.cell 1
      go_wp2_with fail
      refine (Heavy_c jb _ w.heap.size _ (GX.out.keep hW) hW.size).mono ?_
      rintro e w1 ⟨rfl, hq1⟩
      rw [HH.out]
      have hc1 := hW.trans (hq1.mono hW.size)
      have hd1 := hb1.below hq1 hb1.lt
      have m0 := hd1.cell 0
      have m1 := hd1.cell 1
      clear n0 n1 hq1 hb1 hW
      go_wp2_with fail
      refine (pworks_c _).mono ?_
      rintro e w9 ⟨rfl, hq9⟩
      go_wp2_with fail
      go_ret
      exact ⟨rfl, hc1.trans (hq9.mono hc1.size)⟩
    · have hszd : decide ((20000 : Int) < (s.size : Int)) = false := decide_eq_false (by omega)
      go_enter Try.func10, Try.ntmps10
      go_wp2_with fail
      generalize World.alloc w _ = W at *
      have n0 := hb1.cell 0
      have n1 := hb1.cell 1
      go_wp2_with fail
      refine (Heavy_c jb _ w.heap.size _ (GX.out.keep hW) hW.size).mono ?_
      rintro e w1 ⟨rfl, hq1⟩
      rw [HH.out]
      have hc1 := hW.trans (hq1.mono hW.size)
      have hd1 := hb1.below hq1 hb1.lt
      have m0 := hd1.cell 0
      have m1 := hd1.cell 1
      clear n0 n1 hq1 hb1 hW
      go_wp2_with fail
      refine (PackPut_c jb kx _ w.heap.size w1 (GX.out.keep hc1) hc1.size).mono ?_
      rintro e w2 ⟨rfl, hq2⟩
      have hc2 := hc1.trans (hq2.mono hc1.size)
      have hd2 := hd1.below hq2 hd1.lt
      have hz2 : w.heap.size < w2.heap.size := hd2.lt
      clear m0 m1 hq2 hd1 hc1
      have HPT : Hid (jb.may.2 = 0 → takeJ (bstr jb.putR.1) = (jb, 0) ∧ jb.putR.2 = 0 ∧ (bstr jb.putR.1).size ≤ 1000000) := fun hm => by
        rw [putR_good hm]
        exact ⟨takeJ_put kx hm, rfl, by rw [bstr_size]; exact by_len kx hm⟩
      have HPE : Hid (¬ jb.may.2 = 0 → jb.putR.2 = 2) := fun hm => by rw [putR_bad hm]
      generalize bstr jb.putR.1 = t5 at *
      generalize jb.putR.2 = e6 at *
      go_upto_if 24 with fail
      go_cut [] (fun wx => Below w.heap.size w wx)
      case first =>
        by_cases hm : jb.may.2 = 0
        · obtain ⟨q1, q2, q3⟩ := HPT.out hm
          have HTJ := Lib.hid q1
          have hq2 : (e6 == 0) = true := by simpa using q2
          clear hm q1 q2
          go_wp2_with fail
          refine (packTake_c t5 (by omega) w2).mono ?_
          rintro e w3 ⟨v, rfl, hv, hb3⟩
          rw [HTJ.out] at hv ⊢
          dsimp only at hv ⊢
          have HK := Lib.hid hv
          obtain ⟨a3, n3, cap3, rfl⟩ := putR_at hv
          clear hv
          have hc3 := hc2.trans (hb3.mono hc2.size)
          have hd3 := hd2.below hb3 hd2.lt
          have hd4 := hd3.alloc (.cells #[.int .i64 jb.par, .slice a3 n3 cap3] 24)
          have hd5 := Blk.new w3 #[.int .i64 jb.par, .slice a3 n3 cap3] 24
          have hc4 := hc3.alloc hc3.size (.cells #[.int .i64 jb.par, .slice a3 n3 cap3] 24)
          have HK4 := Lib.hid ((HK.out.keep ((Below.refl w3.heap.size w3).alloc (Nat.le_refl _) (.cells #[.int .i64 jb.par, .slice a3 n3 cap3] 24))).mono (Nat.le_of_lt hd5.lt))
          go_upto_region 6 with fail
          generalize w3.alloc _ = w4 at *
          have x0 := hd4.cell 0
          have x1 := hd4.cell 1
          have y0 := hd5.cell 0
          have y1 := hd5.cell 1
          have HSR := Lib.hid (Jb.same_refl jb)
          clear hc2 hc3 hd2 hd3 hb3
          go_wp2_with fail
          refine (JSame_c jb jb _ _ w4.heap.size w4 ((GX.out.keep hc4).mono hc4.size) HK4.out (Nat.le_refl _)).mono ?_
          rintro e w5 ⟨rfl, hb5⟩
          rw [HSR.out]
          go_wp2_with fail
          go_meet
          exact hc4.trans (hb5.mono hc4.size)
        · have hq2 : (e6 == 0) = false := by rw [HPE.out hm]; rfl
          go_wp2_with fail
          go_meet
          exact hc2
      case rest =>
        clear hc2 hd2
        have hc := hcut
        go_wp2_with fail
        refine (packTake_c s (by omega) wc).mono ?_
        rintro e w3 ⟨v, rfl, hv, hb3⟩
        have hc3 := hc.trans (hb3.mono hc.size)
        clear hb3
        by_cases he : (takeJ s).2 = 0
        · obtain ⟨q1, q2, q3, q4⟩ := takeJ_back s he
          rw [he]
          have HK := Lib.hid hv
          obtain ⟨a3, n3, cap3, rfl⟩ := putR_at hv
          clear hv
          have HPR := Lib.hid (putR_good q3)
          have HQ1 := Lib.hid q1
          have HQ4 := Lib.hid q4
          clear q1 q2 q3 q4 he
          generalize (takeJ s).1 = kj at *
          have hd5 := Blk.new w3 #[.int .i64 kj.par, .slice a3 n3 cap3] 24
          have hc4 := hc3.alloc hc3.size (.cells #[.int .i64 kj.par, .slice a3 n3 cap3] 24)
          have HK4 := Lib.hid (HK.out.keep ((Below.refl w3.heap.size w3).alloc (Nat.le_refl _) (.cells #[.int .i64 kj.par, .slice a3 n3 cap3] 24)))
          have hz3 : w3.heap.size ≤ (w3.alloc (.cells #[.int .i64 kj.par, .slice a3 n3 cap3] 24)).heap.size := by simp
          go_upto_region 11 with fail
          generalize w3.alloc _ = w4 at *
          have y0 := hd5.cell 0
          have y1 := hd5.cell 1
          go_wp2_with fail
          refine (PackPut_c kj HQ1.out _ w3.heap.size w4 HK4.out hz3).mono ?_
          rintro e w5 ⟨rfl, hb5⟩
          rw [HPR.out]
          dsimp only
          rw [← HQ4.out]
          have hc5 := hc4.trans (hb5.mono hc4.size)
          go_wp2_with fail
          refine (pworks_c _).mono ?_
          rintro e w9 ⟨rfl, hq9⟩
          go_wp2_with fail
          go_ret
          exact ⟨rfl, hc5.trans (hq9.mono hc5.size)⟩
        · have heb : ((takeJ s).2 != 0) = true := by simpa using he
          rw [takeJ_err s he] at hv
          generalize (takeJ s).2 = er at *
          have HK := Lib.hid hv
          obtain ⟨a3, n3, cap3, rfl⟩ := putR_at hv
          clear hv he
          dsimp only at HK ⊢
          have hd5 := Blk.new w3 #[.int .i64 0, .slice a3 n3 cap3] 24
          have hc4 := hc3.alloc hc3.size (.cells #[.int .i64 0, .slice a3 n3 cap3] 24)
          have HK4 := Lib.hid ((HK.out.keep ((Below.refl w3.heap.size w3).alloc (Nat.le_refl _) (.cells #[.int .i64 0, .slice a3 n3 cap3] 24))).mono (Nat.le_of_lt hd5.lt))
          go_upto_region 10 with fail
          generalize w3.alloc _ = w4 at *
          have y0 := hd5.cell 0
          have y1 := hd5.cell 1
          have HSR := Lib.hid (Jb.same_refl ⟨0, []⟩)
          go_wp2_with fail
          refine (JSame_c ⟨0, []⟩ ⟨0, []⟩ _ _ w4.heap.size w4 HK4.out (none_at _ _) (Nat.le_refl _)).mono ?_
          rintro e w5 ⟨rfl, hb5⟩
          rw [HSR.out]
          have hc5 := hc4.trans (hb5.mono hc4.size)
          go_wp2_with fail
          refine (pworks_c _).mono ?_
          rintro e w9 ⟨rfl, hq9⟩
          go_wp2_with fail
          go_ret
          exact ⟨rfl, hc5.trans (hq9.mono hc5.size)⟩
  · have HH := Lib.hid hh
    clear hh
    go_enter Try.func10, Try.ntmps10
    go_wp2_with fail
    generalize World.alloc w _ = W at *
    have n0 := hb1.cell 0
    have n1 := hb1.cell 1
    go_wp2_with fail
    refine (Heavy_c jb _ w.heap.size _ (GX.out.keep hW) hW.size).mono ?_
    rintro e w1 ⟨rfl, hq1⟩
    rw [HH.out]
    have hc1 := hW.trans (hq1.mono hW.size)
    have hd1 := hb1.below hq1 hb1.lt
    have m0 := hd1.cell 0
    have m1 := hd1.cell 1
    clear n0 n1 hq1 hb1 hW
    go_wp2_with fail
    refine (pworks_c _).mono ?_
    rintro e w9 ⟨rfl, hq9⟩
    go_wp2_with fail
    go_ret
    exact ⟨rfl, hc1.trans (hq9.mono hc1.size)⟩

theorem bstr_upto (l : List UInt8) (k : Nat) : (bstr l).extract 0 k = bstr (l.take k) := by
  have h := extract_list (bstr l) 0 k
  rw [Nat.zero_add, List.drop_zero, bstr_list] at h
  rw [← bstr_of ((bstr l).extract 0 k), h]
set_option maxHeartbeats 4000000 in
theorem PackShort_c (w : World) (jb : Jb) (v : Value) (gx : JbAt w w.heap.size v jb) (kx : jb.ok) (at_ : Int) (more : ByteArray) (wat : (Lit.int .i64 at_).wf = true) (hm : more.size ≤ 140737488351232) :
    Calls Try.prog 7 #[v, .int .i64 at_, .string more] w fun e w' => e = .returned (.bool true) ∧ Below w.heap.size w w' := by
  have GX := Lib.hid gx
  obtain ⟨a, n, cap, rfl⟩ := putR_at gx
  have hW := (Below.refl w.heap.size w).alloc (Nat.le_refl _) (.cells #[.int .i64 jb.par, .slice a n cap] 24)
  have hb1 := Blk.new w #[.int .i64 jb.par, .slice a n cap] 24
  have hir := wf_i64r wat
  clear gx wat
  cases hh : jb.heavyB
  · have HH := Lib.hid hh
    clear hh
    by_cases hsz : 1000 < more.size
    · have hszd : decide ((1000 : Int) < (more.size : Int)) = true := decide_eq_true (by omega)
      go_enter Try.func7, Try.ntmps7
      go_wp2_with fail
      generalize World.alloc w _ = W at *
      have n0 := hb1.cell 0
      have n1 := hb1.cell 1
      go_wp2_with fail
      refine (PackPut_c jb kx _ w.heap.size W (GX.out.keep hW) hW.size).mono ?_
      rintro e w1 ⟨rfl, hq1⟩
      have hc1 := hW.trans (hq1.mono hW.size)
      have hd1 := hb1.below hq1 hb1.lt
      have m0 := hd1.cell 0
      have m1 := hd1.cell 1
      clear n0 n1 hq1 hb1 hW
      generalize bstr jb.putR.1 = t5 at *
      generalize jb.putR.2 = e6 at *
      go_wp2_with fail
      refine (Heavy_c jb _ w.heap.size _ (GX.out.keep hc1) hc1.size).mono ?_
      rintro e w2 ⟨rfl, hq2⟩
      rw [HH.out]
      have hc2 := hc1.trans (hq2.mono hc1.size)
      clear m0 m1 hq2 hd1 hc1
      go_wp2_with fail
      refine (pworks_c _).mono ?_
      rintro e w9 ⟨rfl, hq9⟩
      go_wp2_with fail
      go_ret
      exact ⟨rfl, hc2.trans (hq9.mono hc2.size)⟩
    · have hszd : decide ((1000 : Int) < (more.size : Int)) = false := decide_eq_false (by omega)
      by_cases hg : jb.may.2 = 0
      · have he : (jb.putR.2 != 0) = false := by rw [putR_good hg]; rfl
        by_cases h0 : at_ < 0
        · have h0d : decide (at_ < 0) = true := decide_eq_true h0
          go_enter Try.func7, Try.ntmps7
          go_wp2_with fail
          generalize World.alloc w _ = W at *
          have n0 := hb1.cell 0
          have n1 := hb1.cell 1
          go_wp2_with fail
          refine (PackPut_c jb kx _ w.heap.size W (GX.out.keep hW) hW.size).mono ?_
          rintro e w1 ⟨rfl, hq1⟩
          have hc1 := hW.trans (hq1.mono hW.size)
          have hd1 := hb1.below hq1 hb1.lt
          have m0 := hd1.cell 0
          have m1 := hd1.cell 1
          clear n0 n1 hq1 hb1 hW
          generalize bstr jb.putR.1 = t5 at *
          generalize jb.putR.2 = e6 at *
          go_wp2_with fail
          refine (Heavy_c jb _ w.heap.size _ (GX.out.keep hc1) hc1.size).mono ?_
          rintro e w2 ⟨rfl, hq2⟩
          rw [HH.out]
          have hc2 := hc1.trans (hq2.mono hc1.size)
          clear m0 m1 hq2 hd1 hc1
          go_wp2_with fail
          refine (pworks_c _).mono ?_
          rintro e w9 ⟨rfl, hq9⟩
          go_wp2_with fail
          go_ret
          exact ⟨rfl, hc2.trans (hq9.mono hc2.size)⟩
        · have h0d : decide (at_ < 0) = false := decide_eq_false h0
          obtain ⟨k, rfl⟩ : ∃ k : Nat, at_ = (k : Int) := ⟨at_.toNat, by omega⟩
          have hbl : (bstr jb.putR.1).size ≤ 1000000 := by rw [putR_good hg, bstr_size]; exact by_len kx hg
          by_cases hk : k < (bstr jb.putR.1).size
          · have hkd : decide (((bstr jb.putR.1).size : Int) ≤ (k : Int)) = false := decide_eq_false (by omega)
            have hkd2 : decide ((k : Int) < ((bstr jb.putR.1).size : Int)) = true := decide_eq_true (by omega)
            have HT1 : Hid ((takeJ ((bstr jb.putR.1).extract 0 k)).2 = 20) := by
              show _ = _
              rw [putR_good hg, bstr_upto]
              refine takeJ_short kx hg k ?_
              rw [putR_good hg, bstr_size] at hk
              exact hk
            have HT2 : Hid ((more.size = 0 → (takeJ (bstr jb.putR.1 ++ more)).2 = 0) ∧ (more.size ≠ 0 → (takeJ (bstr jb.putR.1 ++ more)).2 ≠ 0)) := by
              rw [putR_good hg]
              refine ⟨fun h => ?_, takeJ_more kx hg more⟩
              have e : bstr jb.by ++ more = bstr jb.by := by
                have e0 : more.data.toList = [] := List.length_eq_zero_iff.1 (by rw [← Lib.size_eq]; exact h)
                rw [← bstr_of more, e0, bstr_app, List.append_nil]
              rw [e, takeJ_put kx hg]
            clear hg
            go_enter Try.func7, Try.ntmps7
            go_wp2_with fail
            generalize World.alloc w _ = W at *
            have n0 := hb1.cell 0
            have n1 := hb1.cell 1
            go_wp2_with fail
            refine (PackPut_c jb kx _ w.heap.size W (GX.out.keep hW) hW.size).mono ?_
            rintro e w1 ⟨rfl, hq1⟩
            have hc1 := hW.trans (hq1.mono hW.size)
            have hd1 := hb1.below hq1 hb1.lt
            have m0 := hd1.cell 0
            have m1 := hd1.cell 1
            clear n0 n1 hq1 hb1 hW
            generalize bstr jb.putR.1 = t5 at *
            generalize jb.putR.2 = e6 at *
            go_wp2_with fail
            refine (Heavy_c jb _ w.heap.size _ (GX.out.keep hc1) hc1.size).mono ?_
            rintro e w2 ⟨rfl, hq2⟩
            rw [HH.out]
            have hc2 := hc1.trans (hq2.mono hc1.size)
            clear m0 m1 hq2 hd1 hc1
            go_wp2_with fail
            refine (packTake_c (t5.extract 0 k) (by rw [ByteArray.size_extract]; omega) w2).mono ?_
            rintro e w3 ⟨v, rfl, hv, hb3⟩
            rw [HT1.out]
            have hc3 := hc2.trans (hb3.mono hc2.size)
            clear hb3 hv hc2
            go_wp2_with fail
            refine (packTake_c (t5 ++ more) (by rw [ByteArray.size_append]; omega) w3).mono ?_
            rintro e w4 ⟨v, rfl, hv, hb4⟩
            obtain ⟨a3, n3, cap3, rfl⟩ := putR_at hv
            have hc4 := (hc3.trans (hb4.mono hc3.size)).alloc (Nat.le_trans hc3.size hb4.size) (.cells #[.int .i64 (takeJ (t5 ++ more)).1.par, .slice a3 n3 cap3] 24)
            clear hb4 hv hc3
            have hem := emp_size more
            have HT2' := HT2.out
            generalize (takeJ (t5 ++ more)).2 = e8 at *
            generalize (takeJ (t5 ++ more)).1.par = pr at *
            go_upto_region 6 with fail
            generalize w4.alloc _ = w5 at *
            by_cases hz : more.size = 0
            · have hz1 : more.toList.isEmpty = true := by rw [hem]; exact decide_eq_true hz
              have hz2 : (e8 == 0) = true := by rw [HT2'.1 hz]; rfl
              clear hem HT2'
              go_wp2_with fail
              refine (pworks_c _).mono ?_
              rintro e w9 ⟨rfl, hq9⟩
              go_wp2_with fail
              go_ret
              exact ⟨rfl, hc4.trans (hq9.mono hc4.size)⟩
            · have hz1 : more.toList.isEmpty = false := by rw [hem]; exact decide_eq_false hz
              have hz2 : (e8 == 0) = false := by simpa using HT2'.2 hz
              clear hem HT2'
              go_wp2_with fail
              refine (pworks_c _).mono ?_
              rintro e w9 ⟨rfl, hq9⟩
              go_wp2_with fail
              go_ret
              exact ⟨rfl, hc4.trans (hq9.mono hc4.size)⟩
          · have hkd : decide (((bstr jb.putR.1).size : Int) ≤ (k : Int)) = true := decide_eq_true (by omega)
            have hkd2 : decide ((k : Int) < ((bstr jb.putR.1).size : Int)) = false := decide_eq_false (by omega)
            go_enter Try.func7, Try.ntmps7
            go_wp2_with fail
            generalize World.alloc w _ = W at *
            have n0 := hb1.cell 0
            have n1 := hb1.cell 1
            go_wp2_with fail
            refine (PackPut_c jb kx _ w.heap.size W (GX.out.keep hW) hW.size).mono ?_
            rintro e w1 ⟨rfl, hq1⟩
            have hc1 := hW.trans (hq1.mono hW.size)
            have hd1 := hb1.below hq1 hb1.lt
            have m0 := hd1.cell 0
            have m1 := hd1.cell 1
            clear n0 n1 hq1 hb1 hW
            generalize bstr jb.putR.1 = t5 at *
            generalize jb.putR.2 = e6 at *
            go_wp2_with fail
            refine (Heavy_c jb _ w.heap.size _ (GX.out.keep hc1) hc1.size).mono ?_
            rintro e w2 ⟨rfl, hq2⟩
            rw [HH.out]
            have hc2 := hc1.trans (hq2.mono hc1.size)
            clear m0 m1 hq2 hd1 hc1
            go_wp2_with fail
            refine (pworks_c _).mono ?_
            rintro e w9 ⟨rfl, hq9⟩
            go_wp2_with fail
            go_ret
            exact ⟨rfl, hc2.trans (hq9.mono hc2.size)⟩
      · have he : (jb.putR.2 != 0) = true := by rw [putR_bad hg]; rfl
        go_enter Try.func7, Try.ntmps7
        go_wp2_with fail
        generalize World.alloc w _ = W at *
        have n0 := hb1.cell 0
        have n1 := hb1.cell 1
        go_wp2_with fail
        refine (PackPut_c jb kx _ w.heap.size W (GX.out.keep hW) hW.size).mono ?_
        rintro e w1 ⟨rfl, hq1⟩
        have hc1 := hW.trans (hq1.mono hW.size)
        have hd1 := hb1.below hq1 hb1.lt
        have m0 := hd1.cell 0
        have m1 := hd1.cell 1
        clear n0 n1 hq1 hb1 hW
        generalize bstr jb.putR.1 = t5 at *
        generalize jb.putR.2 = e6 at *
        go_wp2_with fail
        refine (Heavy_c jb _ w.heap.size _ (GX.out.keep hc1) hc1.size).mono ?_
        rintro e w2 ⟨rfl, hq2⟩
        rw [HH.out]
        have hc2 := hc1.trans (hq2.mono hc1.size)
        clear m0 m1 hq2 hd1 hc1
        go_wp2_with fail
        refine (pworks_c _).mono ?_
        rintro e w9 ⟨rfl, hq9⟩
        go_wp2_with fail
        go_ret
        exact ⟨rfl, hc2.trans (hq9.mono hc2.size)⟩
  · have HH := Lib.hid hh
    clear hh
    go_enter Try.func7, Try.ntmps7
    go_wp2_with fail
    generalize World.alloc w _ = W at *
    have n0 := hb1.cell 0
    have n1 := hb1.cell 1
    go_wp2_with fail
    refine (PackPut_c jb kx _ w.heap.size W (GX.out.keep hW) hW.size).mono ?_
    rintro e w1 ⟨rfl, hq1⟩
    have hc1 := hW.trans (hq1.mono hW.size)
    have hd1 := hb1.below hq1 hb1.lt
    have m0 := hd1.cell 0
    have m1 := hd1.cell 1
    clear n0 n1 hq1 hb1 hW
    generalize bstr jb.putR.1 = t5 at *
    generalize jb.putR.2 = e6 at *
    go_wp2_with fail
    refine (Heavy_c jb _ w.heap.size _ (GX.out.keep hc1) hc1.size).mono ?_
    rintro e w2 ⟨rfl, hq2⟩
    rw [HH.out]
    have hc2 := hc1.trans (hq2.mono hc1.size)
    clear m0 m1 hq2 hd1 hc1
    go_wp2_with fail
    refine (pworks_c _).mono ?_
    rintro e w9 ⟨rfl, hq9⟩
    go_wp2_with fail
    go_ret
    exact ⟨rfl, hc2.trans (hq9.mono hc2.size)⟩

end Go.Proofs.Ytfieoehchghiiaa
