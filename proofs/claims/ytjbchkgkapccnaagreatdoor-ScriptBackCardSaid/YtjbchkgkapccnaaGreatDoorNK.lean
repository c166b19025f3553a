/-
  The walk of ScriptBack.
-/
import Derived.Test.YtjbchkgkapccnaaGreatDoorNF
import Derived.Test.YtjbchkgkapccnaaGreatDoorNG
import Derived.Test.YtjbchkgkapccnaaGreatDoorNJ
namespace Go.Proofs.YtjbchkgkapccnaaGreatDoor
open Go.RowKit
set_option linter.unusedVariables false
set_option linter.unusedSimpArgs false

set_option maxRecDepth 100000 in
set_option maxHeartbeats 4000000 in
theorem sBack_c (w : World) (jb : Jb) (v : Value) (gx : JbAt w w.heap.size v jb) (kx : jb.ok) (s : ByteArray) (hs : s.size ≤ 140737488351232) (hE : Env w) :
    Calls Tryz.prog 5 #[v, .string s] w fun e w' => e = .returned (.bool true) ∧ Below w.heap.size w w' := by
  have GX := Lib.hid gx
  have HE := Lib.hid hE
  obtain ⟨a, n, cap, rfl⟩ := job_atN gx
  have hW := (Below.refl w.heap.size w).alloc (Nat.le_refl _) (.cells #[.int .i64 jb.par, .slice a n cap] 24)
  have hb1 := Blk.new w #[.int .i64 jb.par, .slice a n cap] 24
  have HWK : Hid (∀ W, Below w.heap.size w W → Calls Tryz.prog 8 #[] W fun e w' => e = .returned (.bool true) ∧ Below W.heap.size W w') := fun W hb => sworks_c W (HE.out.keep hb)
  have HTX : Hid (∀ W, Below w.heap.size w W → Calls Tryz.prog 10 #[.agg #[.int .i64 jb.par, .slice a n cap]] W fun e w' => e = .returned (.tuple #[.string (tellJ jb).1, .int .i64 (tellJ jb).2]) ∧ Below W.heap.size W w') :=
    fun W hb => Text_c jb _ W ((GX.out.keep hb).mono hb.size) kx (HE.out.keep hb).tb
  have HBK := Lib.hid (@script_back jb kx)
  have HSZ : Hid ((tellJ jb).2 = 0 → (tellJ jb).1.size ≤ 140737488351232) := fun h => by
    have h2 := script_back kx h
    by_cases hz : 65536 < (tellJ jb).1.size
    · unfold pScript at h2
      rw [if_pos hz] at h2
      have := congrArg (fun q : Jb × Int × Int => q.2.2) h2
      exact absurd this (show ¬ (3 : Int) = 0 by decide)
    · omega
  have HP : Hid (∀ W, Env W → Calls Tryz.prog 7 #[.string s] W (PPost (pScript s) W)) := fun W h => sp_c s hs W h
  have HPM := Lib.hid (@parse_may s)
  have HPO := Lib.hid (pScript_ok s)
  have HHV : Hid (∀ W, Below w.heap.size w W → Calls Tryz.prog 9 #[.agg #[.int .i64 jb.par, .slice a n cap]] W fun e w' => e = .returned (.bool jb.heavyB) ∧ Below W.heap.size W w') := fun W hb => Heavy_c jb _ w.heap.size W (GX.out.keep hb) hb.size
  have HSS := Lib.hid (Jb.same_reflN jb)
  clear gx hE
  generalize pScript s = p at *
  obtain ⟨k, pl, pe⟩ := p
  dsimp only at HPM HPO
  generalize tellJ jb = td at *
  obtain ⟨t, te⟩ := td
  dsimp only at HBK HSZ
  go_enter Tryz.func5, Tryz.ntmps5
  go_upto_region 1 with fail
  generalize World.alloc w _ = W at *
  have n0 := hb1.cell 0
  have n1 := hb1.cell 1
  go_wp2_with fail
  refine (HHV.out W hW).mono ?_
  rintro e w1 ⟨rfl, hq1⟩
  have hc1 := hW.trans (hq1.mono hW.size)
  have hd1 := hb1.below hq1 hb1.lt
  clear n0 n1 hq1 hb1 hW
  cases hh : jb.heavyB
  · by_cases hz : 70000 < s.size
    · have hzI : (70000 : Int) < (s.size : Int) := by omega
      go_wp2_with fail
      refine (HWK.out w1 hc1).mono ?_
      rintro e w9 ⟨rfl, hq9⟩
      go_wp2_with fail
      go_ret
      exact ⟨rfl, hc1.trans (hq9.mono hc1.size)⟩
    · have hzI : ¬ (70000 : Int) < (s.size : Int) := by omega
      have n0 := hd1.cell 0
      have n1 := hd1.cell 1
      go_wp2_with fail
      refine (HTX.out w1 hc1).mono ?_
      rintro e w2 ⟨rfl, hq2⟩
      have hc2 := hc1.trans (hq2.mono hc1.size)
      have hd2 := hd1.below hq2 hd1.lt
      clear n0 n1 hq2 hd1 hc1
      go_upto_if 28 with fail
      go_cut [6] (fun s6 wx => Below w.heap.size w wx)
      case first =>
        by_cases h0 : te = 0
        · subst h0
          have HPT : Hid (∀ W, Env W → Calls Tryz.prog 7 #[.string t] W fun x w' => ∃ d c, x = .returned (.tuple #[.agg #[.int .i64 jb.par, .slice d jb.nodes.length c], .int .i64 0, .int .i64 0]) ∧ NodesAt w' w'.heap.size jb.nodes (.slice d jb.nodes.length c) ∧ Below W.heap.size W w') := fun W h => sp_known (HBK.out rfl) (HSZ.out rfl) W h
          go_wp2_with fail
          refine (HPT.out w2 (HE.out.keep hc2)).mono ?_
          rintro e w3 ⟨d1, c1, rfl, hn1, hq3⟩
          have hY := Blk.new w3 #[.int .i64 jb.par, .slice d1 jb.nodes.length c1] 24
          have hbX := hq3.alloc hq3.size (.cells #[.int .i64 jb.par, .slice d1 jb.nodes.length c1] 24)
          have hc3 := hc2.trans (hbX.mono hc2.size)
          have hd3 := hd2.below hbX hd2.lt
          have hs3 : w3.heap.size ≤ (w3.alloc (.cells #[.int .i64 jb.par, .slice d1 jb.nodes.length c1] 24)).heap.size := by simp
          have hn3 := (hn1.keep ((Below.refl w3.heap.size w3).alloc (Nat.le_refl _) (.cells #[.int .i64 jb.par, .slice d1 jb.nodes.length c1] 24))).mono hs3
          have HSM := Lib.hid (JSame_c jb jb (.agg #[.int .i64 jb.par, .slice a n cap]) (.agg #[.int .i64 jb.par, .slice d1 jb.nodes.length c1]) _ _ ((GX.out.keep hc3).mono hc3.size) ⟨_, rfl, hn3⟩ (Nat.le_refl _))
          rw [HSS.out] at HSM
          clear hn1 hq3 hbX hn3
          go_upto_region 6 with fail
          generalize World.alloc w3 _ = W3 at *
          have n0 := hd3.cell 0
          have n1 := hd3.cell 1
          have y0 := hY.cell 0
          have y1 := hY.cell 1
          go_wp2_with fail
          refine HSM.out.mono ?_
          rintro e w4 ⟨rfl, hb4⟩
          go_wp2_with fail
          go_meet
          exact hc3.trans (hb4.mono hc3.size)
        · have h0b : (te == 0) = false := by rw [beq_eq_false_iff_ne]; exact h0
          go_wp2_with fail
          go_meet
          exact hc2
      case rest =>
        have HC := Lib.hid hcut
        clear hcut hd2 HBK HSZ HTX HHV hc2
        go_wp2_with fail
        refine (HP.out wc (HE.out.keep HC.out)).mono ?_
        rintro e w3 ⟨d1, c1, rfl, hn1, hq3⟩
        dsimp only at hn1
        have hY := Blk.new w3 #[.int .i64 k.par, .slice d1 k.nodes.length c1] 24
        have hbX := hq3.alloc hq3.size (.cells #[.int .i64 k.par, .slice d1 k.nodes.length c1] 24)
        have hc3 := HC.out.trans (hbX.mono HC.out.size)
        have hs3 : w3.heap.size ≤ (w3.alloc (.cells #[.int .i64 k.par, .slice d1 k.nodes.length c1] 24)).heap.size := by simp
        have hn3 := (hn1.keep ((Below.refl w3.heap.size w3).alloc (Nat.le_refl _) (.cells #[.int .i64 k.par, .slice d1 k.nodes.length c1] 24))).mono hs3
        clear hn1 hq3 hbX HP hs3
        go_upto_region 9 with fail
        generalize World.alloc w3 _ = W3 at *
        by_cases h0 : pe = 0
        · subst h0
          have hmy := HPM.out rfl
          have hwd := tell_wide hmy
          have HN3 := Lib.hid hn3
          have HT2 := Lib.hid (Text_c k (.agg #[.int .i64 k.par, .slice d1 k.nodes.length c1]) W3 ⟨_, rfl, hn3⟩ HPO.out (HE.out.keep hc3).tb)
          have HBK := Lib.hid (@script_back k HPO.out)
          have HSZ : Hid ((tellJ k).2 = 0 → (tellJ k).1.size ≤ 140737488351232) := fun h => by
            have h2 := script_back HPO.out h
            by_cases hz : 65536 < (tellJ k).1.size
            · unfold pScript at h2
              rw [if_pos hz] at h2
              have := congrArg (fun q : Jb × Int × Int => q.2.2) h2
              exact absurd this (show ¬ (3 : Int) = 0 by decide)
            · omega
          have HSK := Lib.hid (Jb.same_reflN k)
          clear hmy hn3 HPM
          generalize tellJ k = tk at *
          obtain ⟨t2, e2⟩ := tk
          dsimp only at hwd HBK HSZ HT2
          have y0 := hY.cell 0
          have y1 := hY.cell 1
          go_wp2_with fail
          refine HT2.out.mono ?_
          rintro e w4 ⟨rfl, hb4⟩
          have hc4 := hc3.trans (hb4.mono hc3.size)
          have hY4 := hY.below hb4 hY.lt
          clear y0 y1
          rcases hwd with rfl | rfl
          · have HPT : Hid (∀ W, Env W → Calls Tryz.prog 7 #[.string t2] W fun x w' => ∃ d c, x = .returned (.tuple #[.agg #[.int .i64 k.par, .slice d k.nodes.length c], .int .i64 0, .int .i64 0]) ∧ NodesAt w' w'.heap.size k.nodes (.slice d k.nodes.length c) ∧ Below W.heap.size W w') := fun W h => sp_known (HBK.out rfl) (HSZ.out rfl) W h
            go_wp2_with fail
            refine (HPT.out w4 (HE.out.keep hc4)).mono ?_
            rintro e w5 ⟨d2, c2, rfl, hn5, hq5⟩
            have hZ := Blk.new w5 #[.int .i64 k.par, .slice d2 k.nodes.length c2] 24
            have hbX := hq5.alloc hq5.size (.cells #[.int .i64 k.par, .slice d2 k.nodes.length c2] 24)
            have hb35 := hb4.trans (hbX.mono hb4.size)
            have hc5 := hc4.trans (hbX.mono hc4.size)
            have hY5 := hY4.below hbX hY4.lt
            have hs5 : w5.heap.size ≤ (w5.alloc (.cells #[.int .i64 k.par, .slice d2 k.nodes.length c2] 24)).heap.size := by simp
            have hn5b := (hn5.keep ((Below.refl w5.heap.size w5).alloc (Nat.le_refl _) (.cells #[.int .i64 k.par, .slice d2 k.nodes.length c2] 24))).mono hs5
            have hn3b := (HN3.out.keep hb35).mono hb35.size
            have HSM := Lib.hid (JSame_c k k (.agg #[.int .i64 k.par, .slice d1 k.nodes.length c1]) (.agg #[.int .i64 k.par, .slice d2 k.nodes.length c2]) _ _ ⟨_, rfl, hn3b⟩ ⟨_, rfl, hn5b⟩ (Nat.le_refl _))
            rw [HSK.out] at HSM
            clear hn5 hn5b hn3b hq5 hbX hY4 hY hb35 hb4
            go_upto_region 15 with fail
            generalize World.alloc w5 _ = W5 at *
            have y0 := hY5.cell 0
            have y1 := hY5.cell 1
            have z0 := hZ.cell 0
            have z1 := hZ.cell 1
            go_wp2_with fail
            refine HSM.out.mono ?_
            rintro e w6 ⟨rfl, hb6⟩
            have hc6 := hc5.trans (hb6.mono hc5.size)
            go_wp2_with fail
            refine (HWK.out w6 hc6).mono ?_
            rintro e w9 ⟨rfl, hq9⟩
            go_wp2_with fail
            go_ret
            exact ⟨rfl, hc6.trans (hq9.mono hc6.size)⟩
          · go_wp2_with fail
            refine (HWK.out w4 hc4).mono ?_
            rintro e w9 ⟨rfl, hq9⟩
            go_wp2_with fail
            go_ret
            exact ⟨rfl, hc4.trans (hq9.mono hc4.size)⟩
        · have h0b : (pe != 0) = true := by rw [bne_iff_ne]; exact h0
          go_wp2_with fail
          refine (HWK.out W3 hc3).mono ?_
          rintro e w9 ⟨rfl, hq9⟩
          go_wp2_with fail
          go_ret
          exact ⟨rfl, hc3.trans (hq9.mono hc3.size)⟩
  · go_wp2_with fail
    refine (HWK.out w1 hc1).mono ?_
    rintro e w9 ⟨rfl, hq9⟩
    go_wp2_with fail
    go_ret
    exact ⟨rfl, hc1.trans (hq9.mono hc1.size)⟩
end Go.Proofs.YtjbchkgkapccnaaGreatDoor
