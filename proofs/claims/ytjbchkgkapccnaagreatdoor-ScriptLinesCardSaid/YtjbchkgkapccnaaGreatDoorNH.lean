/-
  The walk of ScriptLines.
-/
import Derived.Test.YtjbchkgkapccnaaGreatDoorNG
import Derived.Test.YtjbchkgkapccnaaGreatDoorNB
import Derived.IntWalk
namespace Go.Proofs.YtjbchkgkapccnaaGreatDoor
open Go.RowKit
set_option linter.unusedVariables false
set_option linter.unusedSimpArgs false

theorem nl_no {l : List UInt8} (h : ¬ 0 ≤ Lib.indexByte l 10) : ∀ b ∈ l, b ≠ 10 := by
  have h1 := Lib.indexByte_ge l 10
  have h2 := Lib.indexByte_none (l := l) (c := 10) (by omega)
  intro b hb e
  subst e
  obtain ⟨k, hk, he⟩ := List.mem_iff_getElem.1 hb
  exact h2 k (by rw [List.getElem?_eq_getElem hk, he])
theorem scontains_c (s : ByteArray) (w : World) : Calls Tryz.prog 13 #[.string s, .string { data := #[10] }] w fun e w' => e = .returned (.bool (decide (0 ≤ Lib.indexByte s.data.toList 10))) ∧ w = w' :=
  (Any.strings_Contains_one Tryz.lays144 s 10 w).mono fun _ _ h => ⟨h.1, h.2.symm⟩

set_option maxRecDepth 100000 in
set_option maxHeartbeats 2000000 in
theorem sLines_c (s : ByteArray) (many : Int) (remark : ByteArray) (hs : s.size ≤ 140737488351232) (hm : (Lit.int .u8 many).wf = true) (hr : remark.size ≤ 140737488351232) (w : World) (hE : Env w) :
    Calls Tryz.prog 6 #[.string s, .int .u8 many, .string remark] w fun e w' => e = .returned (.bool true) ∧ Below w.heap.size w w' := by
  have hb : 0 ≤ many ∧ many ≤ 255 := by simpa [Lit.wf, IntKind.min, IntKind.max, IntKind.signed, IntKind.bits] using hm
  obtain ⟨mn, rfl⟩ : ∃ k : Nat, many = (k : Int) := ⟨many.toNat, by omega⟩
  have hE1 := Lib.hid hE
  have HCT := Lib.hid (scontains_c remark w)
  have hNL := Lib.hid (@nl_no remark.data.toList)
  clear hm hE
  by_cases hc : 0 ≤ Lib.indexByte remark.data.toList 10
  · have hcb : decide (0 ≤ Lib.indexByte remark.data.toList 10) = true := by rw [decide_eq_true_eq]; exact hc
    rw [hcb] at HCT
    have HWK := Lib.hid (sworks_c w hE1.out)
    clear hc hcb
    go_enter Tryz.func6, Tryz.ntmps6
    go_wp2_with fail
    refine HCT.out.mono ?_
    rintro e w1 ⟨rfl, rfl⟩
    go_wp2_with fail
    refine HWK.out.mono ?_
    rintro e w2 ⟨rfl, hb2⟩
    go_wp2_with fail
    go_ret
    exact ⟨rfl, hb2⟩
  · have hcb : decide (0 ≤ Lib.indexByte remark.data.toList 10) = false := by rw [decide_eq_false_iff_not]; exact hc
    rw [hcb] at HCT
    have HNL := Lib.hid (hNL.out hc)
    clear hc hcb hNL
    obtain ⟨nn, hnn⟩ : ∃ k, mn % 5 = k := ⟨_, rfl⟩
    have hn4 : nn ≤ 4 := by omega
    have hmod : (mn : Int) % 5 = (nn : Int) := by omega
    have hn4I : (nn : Int) ≤ 4 := by omega
    obtain ⟨P, hP⟩ : ∃ P : Nat, nn * (remark.size + 2) = P := ⟨_, rfl⟩
    have hPle : P ≤ 562949953405000 := by
      rw [← hP]
      exact Nat.le_trans (Nat.mul_le_mul hn4 (Nat.add_le_add_right hr 2)) (by decide)
    have hmul : (nn : Int) * ((remark.size : Int) + 2) = (P : Int) := by rw [← hP]; push_cast; rfl
    have hmulw : IntKind.i64.wrap ((nn : Int) * ((remark.size : Int) + 2)) = (P : Int) := by rw [hmul]; exact IntWalk.i64_in _ (by omega)
    have HPE := Lib.hid hP
    have HMN := Lib.hid hnn
    clear hP hnn hmul
    by_cases hz : 65536 < s.size + P
    · have HWK := Lib.hid (sworks_c w hE1.out)
      have hzI : (65536 : Int) < (s.size : Int) + (P : Int) := by omega
      go_enter Tryz.func6, Tryz.ntmps6
      go_wp2_with fail
      refine HCT.out.mono ?_
      rintro e w1 ⟨rfl, rfl⟩
      go_wp2_with fail
      refine HWK.out.mono ?_
      rintro e w2 ⟨rfl, hb2⟩
      go_wp2_with fail
      go_ret
      exact ⟨rfl, hb2⟩
    · have hzI : ¬ (65536 : Int) < (s.size : Int) + (P : Int) := by omega
      have hPA := pScript_ahead remark s nn HNL.out (by rw [HPE.out]; omega)
      have hsz := ahead_size remark nn s
      have hln := pScript_line s
      rw [HPE.out] at hsz
      have hPS1 := Lib.hid (sp_c s hs w hE1.out)
      have hPS2 : Hid (∀ W, Env W → Calls Tryz.prog 7 #[.string (aheadN remark nn s)] W (PPost (pScript (aheadN remark nn s)) W)) := fun W h => sp_c _ (by omega) W h
      have hr6 : remark.size ≤ 65536 ∨ nn = 0 := by
        by_cases h0 : nn = 0
        · exact .inr h0
        · left
          have h1 : 1 * (remark.size + 2) ≤ nn * (remark.size + 2) := Nat.mul_le_mul_right _ (by omega)
          have := HPE.out
          omega
      have hrp : (hashL remark).size * nn ≤ 140737488355328 := by
        have e : (hashL remark).size = remark.size + 2 := by
          unfold hashL
          rw [ByteArray.size_append, ByteArray.size_append]
          show 1 + remark.size + 1 = _
          omega
        rw [e, Nat.mul_comm, HPE.out]
        omega
      have HRP : Hid (∀ W, Calls Tryz.prog 14 #[.string (({ data := #[35] } ++ remark) ++ { data := #[10] }), .int .i64 (nn : Int)] W fun e w' => e = .returned (.string ⟨(Lib.repeatL (hashL remark).data.toList nn).toArray⟩) ∧ Below W.heap.size W w') := fun W => Tryz.strings_Repeat (hashL remark) nn W (by omega) hrp
      have HAE := Lib.hid (ahead_eq remark nn s)
      have hrs : (⟨(Lib.repeatL (hashL remark).data.toList nn).toArray⟩ : ByteArray).size + s.size ≤ 65536 := by
        have h := congrArg ByteArray.size HAE.out
        rw [ByteArray.size_append] at h
        omega
      generalize (⟨(Lib.repeatL (hashL remark).data.toList nn).toArray⟩ : ByteArray) = rp at *
      generalize aheadN remark nn s = ah at *
      generalize pScript s = p at *
      generalize pScript ah = p2 at *
      obtain ⟨j, a, e⟩ := p
      obtain ⟨j2, a2, e2⟩ := p2
      unfold PPost at hPS1 hPS2
      dsimp only at hPA hPS1 hPS2 hln
      obtain ⟨rfl, rfl, ha2⟩ := hPA
      have HA2 := Lib.hid ha2
      have hrk : remark.size + 1 ≤ 140737488351300 := by omega
      have hh1 : ({ data := #[35] } ++ remark : ByteArray).size ≤ 140737488351353 := by rw [ByteArray.size_append]; show 1 + _ ≤ _; omega
      clear ha2 hrp hr6 hsz
      have HS := Lib.hid (Jb.same_reflN j2)
      go_enter Tryz.func6, Tryz.ntmps6
      go_wp2_with fail
      refine HCT.out.mono ?_
      rintro e w1 ⟨rfl, rfl⟩
      go_wp2_with fail
      refine hPS1.out.mono ?_
      rintro e w1 ⟨d1, c1, rfl, hn1, hb1⟩
      obtain ⟨hl0, hl1⟩ := hln
      have hY := Blk.new w1 #[.int .i64 j2.par, .slice d1 j2.nodes.length c1] 24
      have hB1 := hb1.alloc hb1.size (.cells #[.int .i64 j2.par, .slice d1 j2.nodes.length c1] 24)
      have hn1' := hn1.keep ((Below.refl w1.heap.size w1).alloc (Nat.le_refl _) (.cells #[.int .i64 j2.par, .slice d1 j2.nodes.length c1] 24))
      have hsw : w1.heap.size ≤ (w1.alloc (.cells #[.int .i64 j2.par, .slice d1 j2.nodes.length c1] 24)).heap.size := by simp
      clear hn1 hb1
      go_upto_region 5 with fail
      generalize World.alloc w1 _ = W1 at *
      go_wp2_with fail
      refine (HRP.out W1).mono ?_
      rintro e w2 ⟨rfl, hb2⟩
      have hB2 := hB1.trans (hb2.mono hB1.size)
      have HP2 := Lib.hid (hPS2.out w2 (hE1.out.keep hB2))
      rw [← HAE.out] at HP2
      go_wp2_with fail
      refine HP2.out.mono ?_
      rintro e w3 ⟨d2, c2, rfl, hn3, hb3⟩
      have hB3 := hB2.trans ((hb3.alloc hb3.size (.cells #[.int .i64 j2.par, .slice d2 j2.nodes.length c2] 24)).mono hB2.size)
      have hb23 := hb2.trans ((hb3.alloc hb3.size (.cells #[.int .i64 j2.par, .slice d2 j2.nodes.length c2] 24)).mono hb2.size)
      have hY3 := hY.below hb23 hY.lt
      have hZ3 := Blk.new w3 #[.int .i64 j2.par, .slice d2 j2.nodes.length c2] 24
      have hn13 := (hn1'.keep (hb23.mono hsw)).mono (Nat.le_trans hsw hb23.size)
      have hn33 := hn3.keep ((Below.refl w3.heap.size w3).alloc (Nat.le_refl _) (.cells #[.int .i64 j2.par, .slice d2 j2.nodes.length c2] 24))
      have hs3 : w3.heap.size ≤ (w3.alloc (.cells #[.int .i64 j2.par, .slice d2 j2.nodes.length c2] 24)).heap.size := by simp
      have HSM := Lib.hid (JSame_c j2 j2 (.agg #[.int .i64 j2.par, .slice d1 j2.nodes.length c1]) (.agg #[.int .i64 j2.par, .slice d2 j2.nodes.length c2]) _ _ ⟨_, rfl, hn13⟩ ⟨_, rfl, hn33.mono hs3⟩ (Nat.le_refl _))
      rw [HS.out] at HSM
      clear hY hn1' hb2 hb3 hn3 hn13 hn33 HP2 hPS1 hPS2 HRP
      go_upto_region 6 with fail
      generalize World.alloc w3 _ = W3 at *
      have y0 := hY3.cell 0
      have y1 := hY3.cell 1
      have z0 := hZ3.cell 0
      have z1 := hZ3.cell 1
      have HWK : Hid (∀ W, Below W3.heap.size W3 W → Calls Tryz.prog 8 #[] W fun e w' => e = .returned (.bool true) ∧ Below W.heap.size W w') := fun W hb => sworks_c W (hE1.out.keep (hB3.trans (hb.mono hB3.size)))
      by_cases ha0 : 0 < a
      · have HA3 := HA2.out
        rw [if_pos ha0] at HA3
        subst HA3
        go_wp2_with fail
        refine HSM.out.mono ?_
        rintro e w4 ⟨rfl, hb4⟩
        go_wp2_with fail
        refine (HWK.out w4 hb4).mono ?_
        rintro e w5 ⟨rfl, hb5⟩
        go_wp2_with fail
        go_ret
        exact ⟨rfl, hB3.trans ((hb4.trans (hb5.mono hb4.size)).mono hB3.size)⟩
      · have HA3 := HA2.out
        rw [if_neg ha0] at HA3
        subst HA3
        go_wp2_with fail
        refine HSM.out.mono ?_
        rintro e w4 ⟨rfl, hb4⟩
        go_wp2_with fail
        refine (HWK.out w4 hb4).mono ?_
        rintro e w5 ⟨rfl, hb5⟩
        go_wp2_with fail
        go_ret
        exact ⟨rfl, hB3.trans ((hb4.trans (hb5.mono hb4.size)).mono hB3.size)⟩
end Go.Proofs.YtjbchkgkapccnaaGreatDoor
