/-
  The walk of EvalSums.
-/
import Derived.Test.YtclknpfmmmaafaaVC
namespace Go.Proofs.Ytclknpfmmmaafaa
open Go.RowKit
set_option linter.unusedVariables false

theorem ok2 {op a b : Int} (h1 : 0 ≤ op ∧ op ≤ 255) (ha : 0 ≤ a ∧ a ≤ 9223372036854775807) (hb : 0 ≤ b ∧ b ≤ 9223372036854775807) : (Ex.mk op 0 [nm a, nm b]).ok := by
  simp only [nm, Ex.ok, Exs.ok, and_true]
  omega
theorem ok3 {op a b c : Int} (h1 : 0 ≤ op ∧ op ≤ 255) (ha : 0 ≤ a ∧ a ≤ 9223372036854775807) (hb : 0 ≤ b ∧ b ≤ 9223372036854775807) (hc : 0 ≤ c ∧ c ≤ 9223372036854775807) : (Ex.mk op 0 [nm a, .mk op 0 [nm b, nm c]]).ok ∧ (Ex.mk op 0 [.mk op 0 [nm a, nm b], nm c]).ok := by
  simp only [nm, Ex.ok, Exs.ok, and_true]
  omega
theorem okb {a b : Int} (ha : 0 ≤ a ∧ a ≤ 9223372036854775807) (hb : 0 ≤ b ∧ b ≤ 9223372036854775807) : (backE a b).ok := by
  simp only [backE, nm, Ex.ok, Exs.ok, and_true]
  omega

set_option maxRecDepth 100000 in
set_option maxHeartbeats 8000000 in
theorem evSums_c (a b c : Int) (wa : (Lit.int .i64 a).wf = true) (wb : (Lit.int .i64 b).wf = true) (wc : (Lit.int .i64 c).wf = true) (w : World) :
    Calls Try.prog 10 #[.int .i64 a, .int .i64 b, .int .i64 c] w fun e w' => e = .returned (.bool true) ∧ Below w.heap.size w w' := by
  have ga : a ≤ 9223372036854775807 := by have : -9223372036854775808 ≤ a ∧ a ≤ 9223372036854775807 := by simpa [Lit.wf, IntKind.min, IntKind.max, IntKind.signed, IntKind.bits] using wa
                                          exact this.2
  have gb : b ≤ 9223372036854775807 := by have : -9223372036854775808 ≤ b ∧ b ≤ 9223372036854775807 := by simpa [Lit.wf, IntKind.min, IntKind.max, IntKind.signed, IntKind.bits] using wb
                                          exact this.2
  have gc : c ≤ 9223372036854775807 := by have : -9223372036854775808 ≤ c ∧ c ≤ 9223372036854775807 := by simpa [Lit.wf, IntKind.min, IntKind.max, IntKind.signed, IntKind.bits] using wc
                                          exact this.2
  clear wa wb wc
  have hmin : ∀ w : World, (Builtin.min_ #[2, 2, 2] 2 #[.int .i64 a, .int .i64 b, .int .i64 c]).run Try.prog w = .ok (.int .i64 (if c < (if b < a then b else a) then c else (if b < a then b else a))) w := by
    intro w
    simp [Builtin.min_, Builtin.min2]
  have hmk : (if c < (if b < a then b else a) then c else (if b < a then b else a)) < 0 ↔ ¬ (0 ≤ a ∧ 0 ≤ b ∧ 0 ≤ c) := by
    split <;> split at * <;> omega
  generalize hm : (if c < (if b < a then b else a) then c else (if b < a then b else a)) = m at *
  clear hm
  by_cases hpos : 0 ≤ a ∧ 0 ≤ b ∧ 0 ≤ c
  · have hm0 : ¬ m < 0 := fun h => hmk.1 h hpos
    obtain ⟨ha0, hb0, hc0⟩ := hpos
    clear hmk
    have HA : Hid (0 ≤ a ∧ a ≤ 9223372036854775807) := ⟨ha0, ga⟩
    have HB : Hid (0 ≤ b ∧ b ≤ 9223372036854775807) := ⟨hb0, gb⟩
    have HC : Hid (0 ≤ c ∧ c ≤ 9223372036854775807) := ⟨hc0, gc⟩
    go_enter Try.func10, Try.ntmps10
    go_wp2_with fail
    have hr := Blk.new w #[.int .u8 7, .int .u8 9] 5
    have hB := (Below.refl w.heap.size w).alloc (Nat.le_refl _) (.cells #[.int .u8 7, .int .u8 9] 5)
    generalize World.alloc w _ = W0 at *
    go_loopw [21] (fun i wr => ∃ k : Nat, k ≤ 2 ∧ i = .int .i64 k ∧ Blk wr w.heap.size 5 #[.int .u8 7, .int .u8 9] ∧ Below w.heap.size w wr) (fun i _ => 2 - (intOf i).toNat)
    case atStart => exact ⟨0, by omega, rfl, hr, hB⟩
    case round =>
      obtain ⟨k, hk, rfl, hr1, hB⟩ := hrel
      clear hr
      by_cases hk2 : k < 2
      · obtain ⟨op, hop, hcell⟩ : ∃ op : Int, (op = 7 ∨ op = 9) ∧ wr.cell? ⟨w.heap.size, k, none⟩ = some (.int .u8 op) := by
          have := hr1.cell k
          rcases (by omega : k = 0 ∨ k = 1) with rfl | rfl
          · exact ⟨7, .inl rfl, this⟩
          · exact ⟨9, .inr rfl, this⟩
        have HR := Lib.hid hr1
        have HOP := Lib.hid hop
        have h255 : 0 ≤ op ∧ op ≤ 255 := by omega
        have HS := Lib.hid (sums_swap hop ha0 hb0)
        have HT := Lib.hid (sums_assoc hop ha0 hb0 hc0)
        have HO := Lib.hid h255
        generalize hv1 : ((Ex.mk op 0 [nm b, nm a]).doR zEnv).n = v1 at *
        generalize hv2 : ((Ex.mk op 0 [.mk op 0 [nm a, nm b], nm c]).doR zEnv).n = v2 at *
        have HV1 := Lib.hid hv1
        have HV2 := Lib.hid hv2
        clear hv1 hv2 hr1 hop h255
        have n1 : (v1 != v1) = false := by simp
        have n2 : (v2 != v2) = false := by simp
        go_wp2_with fail
        refine (snum_c a _).mono ?_
        rintro e w1 ⟨a1, k1, c1, rfl, hx1, hb1⟩
        replace HR := Lib.hid (HR.out.below hb1 HR.out.lt)
        replace hB := hB.trans (hb1.mono hB.size)
        clear hb1
        have HX1 := Lib.hid hx1
        clear hx1
        go_wp2_with fail
        refine (snum_c b _).mono ?_
        rintro e w2 ⟨a2, k2, c2, rfl, hx2, hb2⟩
        replace HX1 := Lib.hid ((HX1.out.keep hb2).mono hb2.size)
        replace HR := Lib.hid (HR.out.below hb2 HR.out.lt)
        replace hB := hB.trans (hb2.mono hB.size)
        clear hb2
        have HX2 := Lib.hid hx2
        clear hx2
        go_wp2_with fail
        refine (sof_c op (nm a) (nm b) _ _ _ HX1.out HX2.out).mono ?_
        rintro e w3 ⟨a3, k3, c3, rfl, hx3, hb3⟩
        clear HX1 HX2
        replace HR := Lib.hid (HR.out.below hb3 HR.out.lt)
        replace hB := hB.trans (hb3.mono hB.size)
        clear hb3
        have HX3 := Lib.hid hx3
        clear hx3
        go_wp2_with fail
        refine (sat_c (.mk op 0 [(nm a), (nm b)]) (ok2 HO.out HA.out HB.out) _ _ HX3.out).mono ?_
        rw [HS.out]
        rintro e w4 ⟨rfl, hb4⟩
        clear HX3
        replace HR := Lib.hid (HR.out.below hb4 HR.out.lt)
        replace hB := hB.trans (hb4.mono hB.size)
        clear hb4
        go_wp2_with fail
        refine (snum_c b _).mono ?_
        rintro e w5 ⟨a5, k5, c5, rfl, hx5, hb5⟩
        replace HR := Lib.hid (HR.out.below hb5 HR.out.lt)
        replace hB := hB.trans (hb5.mono hB.size)
        clear hb5
        have HX5 := Lib.hid hx5
        clear hx5
        go_wp2_with fail
        refine (snum_c a _).mono ?_
        rintro e w6 ⟨a6, k6, c6, rfl, hx6, hb6⟩
        replace HX5 := Lib.hid ((HX5.out.keep hb6).mono hb6.size)
        replace HR := Lib.hid (HR.out.below hb6 HR.out.lt)
        replace hB := hB.trans (hb6.mono hB.size)
        clear hb6
        have HX6 := Lib.hid hx6
        clear hx6
        go_wp2_with fail
        refine (sof_c op (nm b) (nm a) _ _ _ HX5.out HX6.out).mono ?_
        rintro e w7 ⟨a7, k7, c7, rfl, hx7, hb7⟩
        clear HX5 HX6
        replace HR := Lib.hid (HR.out.below hb7 HR.out.lt)
        replace hB := hB.trans (hb7.mono hB.size)
        clear hb7
        have HX7 := Lib.hid hx7
        clear hx7
        go_wp2_with fail
        refine (sat_c (.mk op 0 [(nm b), (nm a)]) (ok2 HO.out HB.out HA.out) _ _ HX7.out).mono ?_
        rw [HV1.out]
        rintro e w8 ⟨rfl, hb8⟩
        clear HX7
        replace HR := Lib.hid (HR.out.below hb8 HR.out.lt)
        replace hB := hB.trans (hb8.mono hB.size)
        clear hb8
        go_wp2_with fail
        refine (snum_c a _).mono ?_
        rintro e w9 ⟨a9, k9, c9, rfl, hx9, hb9⟩
        replace HR := Lib.hid (HR.out.below hb9 HR.out.lt)
        replace hB := hB.trans (hb9.mono hB.size)
        clear hb9
        have HX9 := Lib.hid hx9
        clear hx9
        go_wp2_with fail
        refine (snum_c b _).mono ?_
        rintro e w10 ⟨a10, k10, c10, rfl, hx10, hb10⟩
        replace HX9 := Lib.hid ((HX9.out.keep hb10).mono hb10.size)
        replace HR := Lib.hid (HR.out.below hb10 HR.out.lt)
        replace hB := hB.trans (hb10.mono hB.size)
        clear hb10
        have HX10 := Lib.hid hx10
        clear hx10
        go_wp2_with fail
        refine (snum_c c _).mono ?_
        rintro e w11 ⟨a11, k11, c11, rfl, hx11, hb11⟩
        replace HX9 := Lib.hid ((HX9.out.keep hb11).mono hb11.size)
        replace HX10 := Lib.hid ((HX10.out.keep hb11).mono hb11.size)
        replace HR := Lib.hid (HR.out.below hb11 HR.out.lt)
        replace hB := hB.trans (hb11.mono hB.size)
        clear hb11
        have HX11 := Lib.hid hx11
        clear hx11
        go_wp2_with fail
        refine (sof_c op (nm b) (nm c) _ _ _ HX10.out HX11.out).mono ?_
        rintro e w12 ⟨a12, k12, c12, rfl, hx12, hb12⟩
        clear HX10 HX11
        replace HX9 := Lib.hid ((HX9.out.keep hb12).mono hb12.size)
        replace HR := Lib.hid (HR.out.below hb12 HR.out.lt)
        replace hB := hB.trans (hb12.mono hB.size)
        clear hb12
        have HX12 := Lib.hid hx12
        clear hx12
        go_wp2_with fail
        refine (sof_c op (nm a) (.mk op 0 [(nm b), (nm c)]) _ _ _ HX9.out HX12.out).mono ?_
        rintro e w13 ⟨a13, k13, c13, rfl, hx13, hb13⟩
        clear HX9 HX12
        replace HR := Lib.hid (HR.out.below hb13 HR.out.lt)
        replace hB := hB.trans (hb13.mono hB.size)
        clear hb13
        have HX13 := Lib.hid hx13
        clear hx13
        go_wp2_with fail
        refine (sat_c (.mk op 0 [(nm a), (.mk op 0 [(nm b), (nm c)])]) (ok3 HO.out HA.out HB.out HC.out).1 _ _ HX13.out).mono ?_
        rw [HT.out]
        rintro e w14 ⟨rfl, hb14⟩
        clear HX13
        replace HR := Lib.hid (HR.out.below hb14 HR.out.lt)
        replace hB := hB.trans (hb14.mono hB.size)
        clear hb14
        go_wp2_with fail
        refine (snum_c a _).mono ?_
        rintro e w15 ⟨a15, k15, c15, rfl, hx15, hb15⟩
        replace HR := Lib.hid (HR.out.below hb15 HR.out.lt)
        replace hB := hB.trans (hb15.mono hB.size)
        clear hb15
        have HX15 := Lib.hid hx15
        clear hx15
        go_wp2_with fail
        refine (snum_c b _).mono ?_
        rintro e w16 ⟨a16, k16, c16, rfl, hx16, hb16⟩
        replace HX15 := Lib.hid ((HX15.out.keep hb16).mono hb16.size)
        replace HR := Lib.hid (HR.out.below hb16 HR.out.lt)
        replace hB := hB.trans (hb16.mono hB.size)
        clear hb16
        have HX16 := Lib.hid hx16
        clear hx16
        go_wp2_with fail
        refine (sof_c op (nm a) (nm b) _ _ _ HX15.out HX16.out).mono ?_
        rintro e w17 ⟨a17, k17, c17, rfl, hx17, hb17⟩
        clear HX15 HX16
        replace HR := Lib.hid (HR.out.below hb17 HR.out.lt)
        replace hB := hB.trans (hb17.mono hB.size)
        clear hb17
        have HX17 := Lib.hid hx17
        clear hx17
        go_wp2_with fail
        refine (snum_c c _).mono ?_
        rintro e w18 ⟨a18, k18, c18, rfl, hx18, hb18⟩
        replace HX17 := Lib.hid ((HX17.out.keep hb18).mono hb18.size)
        replace HR := Lib.hid (HR.out.below hb18 HR.out.lt)
        replace hB := hB.trans (hb18.mono hB.size)
        clear hb18
        have HX18 := Lib.hid hx18
        clear hx18
        go_wp2_with fail
        refine (sof_c op (.mk op 0 [(nm a), (nm b)]) (nm c) _ _ _ HX17.out HX18.out).mono ?_
        rintro e w19 ⟨a19, k19, c19, rfl, hx19, hb19⟩
        clear HX17 HX18
        replace HR := Lib.hid (HR.out.below hb19 HR.out.lt)
        replace hB := hB.trans (hb19.mono hB.size)
        clear hb19
        have HX19 := Lib.hid hx19
        clear hx19
        go_wp2_with fail
        refine (sat_c (.mk op 0 [(.mk op 0 [(nm a), (nm b)]), (nm c)]) (ok3 HO.out HA.out HB.out HC.out).2 _ _ HX19.out).mono ?_
        rw [HV2.out]
        rintro e w20 ⟨rfl, hb20⟩
        clear HX19
        replace HR := Lib.hid (HR.out.below hb20 HR.out.lt)
        replace hB := hB.trans (hb20.mono hB.size)
        clear hb20
        go_wp2_with fail
        go_roundw
        case rel => exact ⟨k + 1, by omega, by go_num, HR.out, hB⟩
        case measure => simp [intOf]; omega
      · obtain rfl : k = 2 := by omega
        have HL := Lib.hid (sums_less ha0)
        have HK : Hid (b ≠ 0 → ((backE a b).doR zEnv).n = a) := fun h => sums_back ha0 ga hb0 h
        clear hr1
        go_wp2_with fail
        refine (snum_c a _).mono ?_
        rintro e w1 ⟨a1, k1, c1, rfl, hx1, hb1⟩
        replace hB := hB.trans (hb1.mono hB.size)
        clear hb1
        have HX1 := Lib.hid hx1
        clear hx1
        go_wp2_with fail
        refine (snum_c b _).mono ?_
        rintro e w2 ⟨a2, k2, c2, rfl, hx2, hb2⟩
        replace HX1 := Lib.hid ((HX1.out.keep hb2).mono hb2.size)
        replace hB := hB.trans (hb2.mono hB.size)
        clear hb2
        have HX2 := Lib.hid hx2
        clear hx2
        go_wp2_with fail
        refine (sof_c 10 (nm a) (nm b) _ _ _ HX1.out HX2.out).mono ?_
        rintro e w3 ⟨a3, k3, c3, rfl, hx3, hb3⟩
        clear HX1 HX2
        replace hB := hB.trans (hb3.mono hB.size)
        clear hb3
        have HX3 := Lib.hid hx3
        clear hx3
        go_wp2_with fail
        refine (snum_c b _).mono ?_
        rintro e w4 ⟨a4, k4, c4, rfl, hx4, hb4⟩
        replace HX3 := Lib.hid ((HX3.out.keep hb4).mono hb4.size)
        replace hB := hB.trans (hb4.mono hB.size)
        clear hb4
        have HX4 := Lib.hid hx4
        clear hx4
        go_wp2_with fail
        refine (sof_c 9 (.mk 10 0 [(nm a), (nm b)]) (nm b) _ _ _ HX3.out HX4.out).mono ?_
        rintro e w5 ⟨a5, k5, c5, rfl, hx5, hb5⟩
        clear HX3 HX4
        replace hB := hB.trans (hb5.mono hB.size)
        clear hb5
        have HX5 := Lib.hid hx5
        clear hx5
        go_wp2_with fail
        refine (snum_c a _).mono ?_
        rintro e w6 ⟨a6, k6, c6, rfl, hx6, hb6⟩
        replace HX5 := Lib.hid ((HX5.out.keep hb6).mono hb6.size)
        replace hB := hB.trans (hb6.mono hB.size)
        clear hb6
        have HX6 := Lib.hid hx6
        clear hx6
        go_wp2_with fail
        refine (snum_c b _).mono ?_
        rintro e w7 ⟨a7, k7, c7, rfl, hx7, hb7⟩
        replace HX5 := Lib.hid ((HX5.out.keep hb7).mono hb7.size)
        replace HX6 := Lib.hid ((HX6.out.keep hb7).mono hb7.size)
        replace hB := hB.trans (hb7.mono hB.size)
        clear hb7
        have HX7 := Lib.hid hx7
        clear hx7
        go_wp2_with fail
        refine (sof_c 11 (nm a) (nm b) _ _ _ HX6.out HX7.out).mono ?_
        rintro e w8 ⟨a8, k8, c8, rfl, hx8, hb8⟩
        clear HX6 HX7
        replace HX5 := Lib.hid ((HX5.out.keep hb8).mono hb8.size)
        replace hB := hB.trans (hb8.mono hB.size)
        clear hb8
        have HX8 := Lib.hid hx8
        clear hx8
        go_wp2_with fail
        refine (sof_c 7 (.mk 9 0 [(.mk 10 0 [(nm a), (nm b)]), (nm b)]) (.mk 11 0 [(nm a), (nm b)]) _ _ _ HX5.out HX8.out).mono ?_
        rintro e w9 ⟨a9, k9, c9, rfl, hx9, hb9⟩
        clear HX5 HX8
        replace hB := hB.trans (hb9.mono hB.size)
        clear hb9
        have HX9 := Lib.hid hx9
        clear hx9
        go_upto_region 13 with fail
        have hX := Blk.new w9 #[.int .u8 7, .int .i64 0, .slice a9 k9 c9] 28
        have hb := (Below.refl w9.heap.size w9).alloc (Nat.le_refl _) (.cells #[.int .u8 7, .int .i64 0, .slice a9 k9 c9] 28)
        replace HX9 := Lib.hid ((HX9.out.keep hb).mono hb.size)
        replace hB := hB.trans (hb.mono hB.size)
        generalize w9.heap.size = xb at *
        generalize w9.alloc _ = Wb at *
        have HBX := Lib.hid hX
        clear hb hX
        go_wp2_with fail
        refine (snum_c a _).mono ?_
        rintro e w10 ⟨a10, k10, c10, rfl, hx10, hb10⟩
        replace HX9 := Lib.hid ((HX9.out.keep hb10).mono hb10.size)
        replace HBX := Lib.hid (HBX.out.below hb10 HBX.out.lt)
        replace hB := hB.trans (hb10.mono hB.size)
        clear hb10
        have HX10 := Lib.hid hx10
        clear hx10
        go_wp2_with fail
        refine (snum_c a _).mono ?_
        rintro e w11 ⟨a11, k11, c11, rfl, hx11, hb11⟩
        replace HX9 := Lib.hid ((HX9.out.keep hb11).mono hb11.size)
        replace HX10 := Lib.hid ((HX10.out.keep hb11).mono hb11.size)
        replace HBX := Lib.hid (HBX.out.below hb11 HBX.out.lt)
        replace hB := hB.trans (hb11.mono hB.size)
        clear hb11
        have HX11 := Lib.hid hx11
        clear hx11
        go_wp2_with fail
        refine (sof_c 8 (nm a) (nm a) _ _ _ HX10.out HX11.out).mono ?_
        rintro e w12 ⟨a12, k12, c12, rfl, hx12, hb12⟩
        clear HX10 HX11
        replace HX9 := Lib.hid ((HX9.out.keep hb12).mono hb12.size)
        replace HBX := Lib.hid (HBX.out.below hb12 HBX.out.lt)
        replace hB := hB.trans (hb12.mono hB.size)
        clear hb12
        have HX12 := Lib.hid hx12
        clear hx12
        go_wp2_with fail
        refine (sat_c (.mk 8 0 [(nm a), (nm a)]) (ok2 (by omega) HA.out HA.out) _ _ HX12.out).mono ?_
        rw [HL.out]
        rintro e w13 ⟨rfl, hb13⟩
        clear HX12
        replace HX9 := Lib.hid ((HX9.out.keep hb13).mono hb13.size)
        replace HBX := Lib.hid (HBX.out.below hb13 HBX.out.lt)
        replace hB := hB.trans (hb13.mono hB.size)
        clear hb13
        have x0 := HBX.out.cell 0
        have x1 := HBX.out.cell 1
        have x2 := HBX.out.cell 2
        by_cases hz : b = 0
        · have hz' : (b == 0) = true := by simpa using hz
          clear hz
          go_wp2_with (go_at_call 21; refine (ework_c _).mono ?_; rintro e wz ⟨rfl, hq⟩)
          go_ret
          exact ⟨rfl, hB.trans (hq.mono hB.size)⟩
        · have hz' : (b == 0) = false := by simpa using hz
          have HK2 := Lib.hid (HK.out hz)
          have haa : (a == a) = true := by simp
          clear hz HK
          go_wp2_with fail
          refine (sat_c (backE a b) (okb HA.out HB.out) _ _ HX9.out).mono ?_
          rw [HK2.out]
          rintro e wy ⟨rfl, hq⟩
          replace hB := hB.trans (hq.mono hB.size)
          clear hq x0 x1 x2 HBX HX9
          go_wp2_with (go_at_call 21; refine (ework_c _).mono ?_; rintro e wz ⟨rfl, hq⟩)
          go_ret
          exact ⟨rfl, hB.trans (hq.mono hB.size)⟩
  · have hm0 : m < 0 := hmk.2 hpos
    clear hmk hpos
    go_enter Try.func10, Try.ntmps10
    go_wp2_with (go_at_call 21; refine (ework_c _).mono ?_; rintro e wz ⟨rfl, hq⟩)
    go_ret
    exact ⟨rfl, hq⟩

end Go.Proofs.Ytclknpfmmmaafaa
