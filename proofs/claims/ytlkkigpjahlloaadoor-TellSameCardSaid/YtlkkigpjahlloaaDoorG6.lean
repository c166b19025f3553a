/-
  The walk of the reference's one: parentheses, if, where it goes wrong.
-/
import Derived.Test.YtlkkigpjahlloaaDoorG5
namespace Go.Proofs.YtlkkigpjahlloaaDoor
open Go.RowKit
set_option linter.unusedVariables false
attribute [local go_sem ↓] Go.wp_at_zero Go.wp_at_succ

set_option maxRecDepth 100000 in
set_option maxHeartbeats 2000000 in
theorem tone_open (bt : Nat) (E : Int) (hE : 0 ≤ E) (L : List Tok) (hL : TkOk L) (st : PSt) (w : World) (h : TxAt w bt E L st) (hbad : st.bad = none) (hnum : st.numB = false) (h_key : Hid (st.isB wKey = false)) (h_val : Hid (st.isB wVal = false)) (h_acc : Hid (st.isB wAcc = false)) (h_open : Hid (st.isB [40] = true)) (pa : Ex × PSt) (s2 : PSt) (HPA : Hid (prF E 0 st.next = pa)) (HS2 : Hid (pa.2.must E [41] = s2)) (HL : Hid (st.next.l.length < st.l.length)) (h00 : Hid (∀ n, n < st.l.length → TrC 31 (ptrL 0) bt E L (prF E 0) n)) :
    Calls Tryd.prog 61 #[.pointer (some ⟨bt, 0, none⟩)] w (PrPost w (fun w st => TxAt w bt E L st) bt (pa.1, s2)) := by
  have H := Lib.hid ((TR.start h).same ((Below.refl _ _).alloc (Nat.le_refl _) (.cells #[.int .u8 0, .int .i64 0, .slice none 0 0] 24)))
  have HN := Lib.hid (Blk.new_at (w.alloc (.cells #[.int .u8 0, .int .i64 0, .slice none 0 0] 24)) #[.int .u8 0, .int .i64 0, .slice none 0 0] 24 (k := w.heap.size + 1) (by simp))
  obtain ⟨v, I, a, hb, hs, hI, hl, hd⟩ := H.out.tx.ex
  have b0 := hb.cell 0
  have b1 := hb.cell 1
  have b3 := hb.cell 3
  have hn4 := hL.1
  have h0I : (0 : Int) ≤ (I : Int) := by omega
  clear h
  have ha : a = -1 := by rcases hd with ⟨_, h⟩ | ⟨b', h, _⟩; exact h; rw [hbad] at h; cases h
  subst ha
  have hneg : decide ((0 : Int) ≤ -1) = false := by decide
  have hway : (¬ I < L.length) ∨ ∃ (tk : Int) (b off cap : Nat), I < L.length ∧ (tk == 2) = false ∧ v = .slice (some ⟨b, off, none⟩) L.length cap ∧ L.length ≤ cap ∧ cap ≤ maxLen ∧ ((w.alloc (.cells #[.int .u8 0, .int .i64 0, .slice none 0 0] 24)).alloc (.cells #[.int .u8 0, .int .i64 0, .slice none 0 0] 24)).cell? ⟨b, off + I * 4, none⟩ = some (.int .u8 tk) := by
    by_cases hlt : I < L.length
    · refine .inr ?_
      have hnum2 := hnum
      obtain ⟨l, bad⟩ := st
      dsimp only at hl
      subst hl
      rw [numB_drop, dif_pos hlt, decide_eq_false_iff_not] at hnum2
      obtain ⟨b, off, cap, rfl, _, d0, d1, d2, d3⟩ := hs.tok I hlt
      have hc1 : L.length ≤ cap ∧ cap ≤ maxLen := by
        obtain ⟨_, a', cap', hv, h2, h3, _⟩ := id hs
        simp only [Value.slice.injEq] at hv
        omega
      exact ⟨_, b, off, cap, hlt, by simpa using hnum2, rfl, hc1.1, hc1.2, d0⟩
    · exact .inl hlt
  obtain ⟨_, a9, c9, hv9, _⟩ := id hs
  subst hv9
  clear hb hs hl hd
  rcases hway with hlt | ⟨tk, b, off, cap, hlt, hk2, hv, hcap, hmx, d0⟩
  · have hg : decide (I < L.length) = false := by rw [decide_eq_false_iff_not]; omega
    go_enter Tryd.func61, Tryd.ntmps61
    go_upto_region 2 with fail
    generalize World.alloc (World.alloc w _) _ = W0 at *
    go_wp2_with fail
    go_quiet (fail)
    have hq0 : Below W0.heap.size W0 (W0.drewN nq) := below_drewN (Below.refl _ _) _
    replace H := Lib.hid (H.out.same hq0)
    replace HN := Lib.hid (HN.out.below hq0 HN.out.lt)
    clear b0 b1 b3 hq0
    generalize W0.drewN nq = W1 at *
    go_wp2_with fail
    have HWD := Lib.hid (Blk.new W1 #[.string { data := #[107, 101, 121] }, .string { data := #[118, 97, 108] }, .string { data := #[97, 99, 99] }] 9)
    have HLW : Hid (w.heap.size < W1.heap.size) := H.out.size
    have hal : Below W1.heap.size W1 (W1.alloc (.cells #[.string { data := #[107, 101, 121] }, .string { data := #[118, 97, 108] }, .string { data := #[97, 99, 99] }] 9)) := (Below.refl _ _).alloc (Nat.le_refl _) _
    have HT1 : Hid (T1 w (W1.alloc (.cells #[.string { data := #[107, 101, 121] }, .string { data := #[118, 97, 108] }, .string { data := #[97, 99, 99] }] 9)) bt W1.heap.size E L st) := ⟨H.out.same hal, HN.out.below hal HN.out.lt, HWD.out, HLW.out⟩
    clear H HN HWD hal
    generalize hwb : W1.heap.size = wb at *
    generalize W1.alloc _ = W2 at *
    clear hwb HLW
    go_loopw [5] (fun i wr => ∃ j : Nat, j ≤ 3 ∧ i = .int .i64 j ∧ T1 w wr bt wb E L st) (fun i _ => 4 - (intOf i).toNat)
    case atStart => exact ⟨0, by omega, rfl, HT1.out⟩
    case round =>
      obtain ⟨j, hj, rfl, ht1⟩ := hrel
      replace HT1 := Lib.hid ht1
      have k0 := ht1.wd.cell 0
      have k1 := ht1.wd.cell 1
      have k2 := ht1.wd.cell 2
      clear ht1
      rcases (by omega : j = 0 ∨ j = 1 ∨ j = 2 ∨ j = 3) with rfl | rfl | rfl | rfl
      · go_wp2_with fail
        refine (tis_l hL s_key h_key.out _ HT1.out.tr.tx).mono ?_
        rintro e wq ⟨rfl, hbq⟩
        replace HT1 := Lib.hid (HT1.out.same hbq)
        clear hbq k0 k1 k2
        go_wp2_with fail
        go_roundw
        case rel => exact ⟨1, by omega, by go_num, HT1.out⟩
        case measure => simp [intOf]
      · go_wp2_with fail
        refine (tis_l hL s_val h_val.out _ HT1.out.tr.tx).mono ?_
        rintro e wq ⟨rfl, hbq⟩
        replace HT1 := Lib.hid (HT1.out.same hbq)
        clear hbq k0 k1 k2
        go_wp2_with fail
        go_roundw
        case rel => exact ⟨2, by omega, by go_num, HT1.out⟩
        case measure => simp [intOf]
      · go_wp2_with fail
        refine (tis_l hL s_acc h_acc.out _ HT1.out.tr.tx).mono ?_
        rintro e wq ⟨rfl, hbq⟩
        replace HT1 := Lib.hid (HT1.out.same hbq)
        clear hbq k0 k1 k2
        go_wp2_with fail
        go_roundw
        case rel => exact ⟨3, by omega, by go_num, HT1.out⟩
        case measure => simp [intOf]
      · clear k0 k1 k2
        go_wp2_with fail
        refine (tis_l hL s_open h_open.out _ HT1.out.tr.tx).mono ?_
        rintro e wq ⟨rfl, hbq⟩
        replace HT1 := Lib.hid (HT1.out.same hbq)
        clear hbq
        obtain ⟨v, I, a, hb, hs, hI, hl, hd⟩ := HT1.out.tr.tx.ex
        have hlt := isB_some hl h_open.out
        have b1 := hb.cell 1
        have f1 := hb.free 1
        have hn4 := hL.1
        have TX := Lib.hid (TxAt.bump hb hs hlt hl hd)
        have HF := Lib.hid ((Fr.refl (fun k => k = bt) wq).setCell (p := ⟨bt, 1, none⟩) (.inl rfl) (.int .i64 ((I : Int) + 1)))
        clear hb hs hl hd
        go_upto_region 16 with fail
        have H := Lib.hid (HT1.out.tr.call HF.out TX.out)
        generalize wq.setCell _ _ = wz at *
        clear b1 f1 TX HF hlt hI HT1
        have hz1 := H.out.size
        go_wp2_with fail
        refine (h00.out _ HL.out st.next _ (Nat.le_refl _) H.out.tx).mono ?_
        rw [HPA.out]
        rintro e wr1 ⟨_, rfl, ha, hr, hf⟩
        obtain ⟨a1, n1, c1, rfl⟩ := ha.slice
        replace H := Lib.hid (H.out.call hf hr)
        have hfs := hf.size
        have hal : Below wr1.heap.size wr1 (wr1.alloc (.cells #[.int .u8 pa.1.op, .int .i64 pa.1.n, .slice a1 n1 c1] 24)) := (Below.refl _ _).alloc (Nat.le_refl _) _
        go_upto_region 17 with fail
        have K1 := Lib.hid (KX.mk_ (w := w) hz1 hfs ha)
        replace H := Lib.hid (H.out.same hal)
        clear ha hr hf hal hfs
        generalize hxb1 : wr1.heap.size = xb1 at *
        generalize wr1.alloc _ = wv1 at *
        clear hxb1
        go_wp2_with fail
        refine (t_must bt E hE L hL _ _ _ s_shut _ H.out.tx).mono ?_
        rw [HS2.out]
        rintro e wm1 ⟨rfl, ht, hf⟩
        replace H := Lib.hid (H.out.call hf ht)
        replace K1 := Lib.hid (K1.out.step H.out.lt hf)
        clear ht hf
        have x0 := K1.out.blk.cell 0
        have x1 := K1.out.blk.cell 1
        have x2 := K1.out.blk.cell 2
        have z0 := H.out.res.cell 0
        have z1 := H.out.res.cell 1
        have z2 := H.out.res.cell 2
        have q0 := H.out.res.free 0
        have q1 := H.out.res.free 1
        have q2 := H.out.res.free 2
        have hsz := H.out.size
        go_wp2_with fail
        obtain ⟨p1, p2⟩ := tPost_pass (x := pa.1) (sv := .slice a1 n1 c1) H.out (K1.out.args.mono fun b hb => ⟨hb.1, hb.2.2⟩)
        refine bodyPost_ret (v := .agg #[_, _, _]) (results_cell_row rfl _ _ w.heap.size 24 _ (0, 0) _ rfl p2 Tryd.underlying24 rfl ?_) rfl p1
        as_aux_lemma => kernel_rfl
  · have hg : decide (I < L.length) = true := by rw [decide_eq_true_eq]; exact hlt
    have hlI : (I : Int) < (L.length : Int) := by omega
    simp only [Value.slice.injEq, true_and] at hv
    obtain ⟨rfl, rfl⟩ := hv
    unfold maxLen at hmx
    go_enter Tryd.func61, Tryd.ntmps61
    go_upto_region 2 with fail
    generalize World.alloc (World.alloc w _) _ = W0 at *
    go_wp2_with fail
    go_quiet (fail)
    have hq0 : Below W0.heap.size W0 (W0.drewN nq) := below_drewN (Below.refl _ _) _
    replace H := Lib.hid (H.out.same hq0)
    replace HN := Lib.hid (HN.out.below hq0 HN.out.lt)
    clear b0 b1 b3 hq0
    clear d0
    generalize W0.drewN nq = W1 at *
    go_wp2_with fail
    have HWD := Lib.hid (Blk.new W1 #[.string { data := #[107, 101, 121] }, .string { data := #[118, 97, 108] }, .string { data := #[97, 99, 99] }] 9)
    have HLW : Hid (w.heap.size < W1.heap.size) := H.out.size
    have hal : Below W1.heap.size W1 (W1.alloc (.cells #[.string { data := #[107, 101, 121] }, .string { data := #[118, 97, 108] }, .string { data := #[97, 99, 99] }] 9)) := (Below.refl _ _).alloc (Nat.le_refl _) _
    have HT1 : Hid (T1 w (W1.alloc (.cells #[.string { data := #[107, 101, 121] }, .string { data := #[118, 97, 108] }, .string { data := #[97, 99, 99] }] 9)) bt W1.heap.size E L st) := ⟨H.out.same hal, HN.out.below hal HN.out.lt, HWD.out, HLW.out⟩
    clear H HN HWD hal
    generalize hwb : W1.heap.size = wb at *
    generalize W1.alloc _ = W2 at *
    clear hwb HLW
    go_loopw [5] (fun i wr => ∃ j : Nat, j ≤ 3 ∧ i = .int .i64 j ∧ T1 w wr bt wb E L st) (fun i _ => 4 - (intOf i).toNat)
    case atStart => exact ⟨0, by omega, rfl, HT1.out⟩
    case round =>
      obtain ⟨j, hj, rfl, ht1⟩ := hrel
      replace HT1 := Lib.hid ht1
      have k0 := ht1.wd.cell 0
      have k1 := ht1.wd.cell 1
      have k2 := ht1.wd.cell 2
      clear ht1
      rcases (by omega : j = 0 ∨ j = 1 ∨ j = 2 ∨ j = 3) with rfl | rfl | rfl | rfl
      · go_wp2_with fail
        refine (tis_l hL s_key h_key.out _ HT1.out.tr.tx).mono ?_
        rintro e wq ⟨rfl, hbq⟩
        replace HT1 := Lib.hid (HT1.out.same hbq)
        clear hbq k0 k1 k2
        go_wp2_with fail
        go_roundw
        case rel => exact ⟨1, by omega, by go_num, HT1.out⟩
        case measure => simp [intOf]
      · go_wp2_with fail
        refine (tis_l hL s_val h_val.out _ HT1.out.tr.tx).mono ?_
        rintro e wq ⟨rfl, hbq⟩
        replace HT1 := Lib.hid (HT1.out.same hbq)
        clear hbq k0 k1 k2
        go_wp2_with fail
        go_roundw
        case rel => exact ⟨2, by omega, by go_num, HT1.out⟩
        case measure => simp [intOf]
      · go_wp2_with fail
        refine (tis_l hL s_acc h_acc.out _ HT1.out.tr.tx).mono ?_
        rintro e wq ⟨rfl, hbq⟩
        replace HT1 := Lib.hid (HT1.out.same hbq)
        clear hbq k0 k1 k2
        go_wp2_with fail
        go_roundw
        case rel => exact ⟨3, by omega, by go_num, HT1.out⟩
        case measure => simp [intOf]
      · clear k0 k1 k2
        go_wp2_with fail
        refine (tis_l hL s_open h_open.out _ HT1.out.tr.tx).mono ?_
        rintro e wq ⟨rfl, hbq⟩
        replace HT1 := Lib.hid (HT1.out.same hbq)
        clear hbq
        obtain ⟨v, I, a, hb, hs, hI, hl, hd⟩ := HT1.out.tr.tx.ex
        have hlt := isB_some hl h_open.out
        have b1 := hb.cell 1
        have f1 := hb.free 1
        have hn4 := hL.1
        have TX := Lib.hid (TxAt.bump hb hs hlt hl hd)
        have HF := Lib.hid ((Fr.refl (fun k => k = bt) wq).setCell (p := ⟨bt, 1, none⟩) (.inl rfl) (.int .i64 ((I : Int) + 1)))
        clear hb hs hl hd
        go_upto_region 16 with fail
        have H := Lib.hid (HT1.out.tr.call HF.out TX.out)
        generalize wq.setCell _ _ = wz at *
        clear b1 f1 TX HF hlt hI HT1
        have hz1 := H.out.size
        go_wp2_with fail
        refine (h00.out _ HL.out st.next _ (Nat.le_refl _) H.out.tx).mono ?_
        rw [HPA.out]
        rintro e wr1 ⟨_, rfl, ha, hr, hf⟩
        obtain ⟨a1, n1, c1, rfl⟩ := ha.slice
        replace H := Lib.hid (H.out.call hf hr)
        have hfs := hf.size
        have hal : Below wr1.heap.size wr1 (wr1.alloc (.cells #[.int .u8 pa.1.op, .int .i64 pa.1.n, .slice a1 n1 c1] 24)) := (Below.refl _ _).alloc (Nat.le_refl _) _
        go_upto_region 17 with fail
        have K1 := Lib.hid (KX.mk_ (w := w) hz1 hfs ha)
        replace H := Lib.hid (H.out.same hal)
        clear ha hr hf hal hfs
        generalize hxb1 : wr1.heap.size = xb1 at *
        generalize wr1.alloc _ = wv1 at *
        clear hxb1
        go_wp2_with fail
        refine (t_must bt E hE L hL _ _ _ s_shut _ H.out.tx).mono ?_
        rw [HS2.out]
        rintro e wm1 ⟨rfl, ht, hf⟩
        replace H := Lib.hid (H.out.call hf ht)
        replace K1 := Lib.hid (K1.out.step H.out.lt hf)
        clear ht hf
        have x0 := K1.out.blk.cell 0
        have x1 := K1.out.blk.cell 1
        have x2 := K1.out.blk.cell 2
        have z0 := H.out.res.cell 0
        have z1 := H.out.res.cell 1
        have z2 := H.out.res.cell 2
        have q0 := H.out.res.free 0
        have q1 := H.out.res.free 1
        have q2 := H.out.res.free 2
        have hsz := H.out.size
        go_wp2_with fail
        obtain ⟨p1, p2⟩ := tPost_pass (x := pa.1) (sv := .slice a1 n1 c1) H.out (K1.out.args.mono fun b hb => ⟨hb.1, hb.2.2⟩)
        refine bodyPost_ret (v := .agg #[_, _, _]) (results_cell_row rfl _ _ w.heap.size 24 _ (0, 0) _ rfl p2 Tryd.underlying24 rfl ?_) rfl p1
        as_aux_lemma => kernel_rfl

set_option maxRecDepth 100000 in
set_option maxHeartbeats 2000000 in
theorem tone_if (bt : Nat) (E : Int) (hE : 0 ≤ E) (L : List Tok) (hL : TkOk L) (st : PSt) (w : World) (h : TxAt w bt E L st) (hbad : st.bad = none) (hnum : st.numB = false) (h_key : Hid (st.isB wKey = false)) (h_val : Hid (st.isB wVal = false)) (h_acc : Hid (st.isB wAcc = false)) (h_open : Hid (st.isB [40] = false)) (h_if : Hid (st.isB wIf = true)) (pa pb pc : Ex × PSt) (s2 s3 : PSt) (HPA : Hid (prF E 0 st.next = pa)) (HS2 : Hid (pa.2.must E wThen = s2)) (HPB : Hid (prF E 0 s2 = pb)) (HS3 : Hid (pb.2.must E wElse = s3)) (HPC : Hid (prF E 0 s3 = pc)) (HL : Hid (st.next.l.length < st.l.length)) (HL2 : Hid (s2.l.length ≤ st.next.l.length)) (HL3 : Hid (s3.l.length ≤ st.next.l.length)) (h00 : Hid (∀ n, n < st.l.length → TrC 31 (ptrL 0) bt E L (prF E 0) n)) :
    Calls Tryd.prog 61 #[.pointer (some ⟨bt, 0, none⟩)] w (PrPost w (fun w st => TxAt w bt E L st) bt (.mk 18 0 [pa.1, pb.1, pc.1], pc.2)) := by
  have H := Lib.hid ((TR.start h).same ((Below.refl _ _).alloc (Nat.le_refl _) (.cells #[.int .u8 0, .int .i64 0, .slice none 0 0] 24)))
  have HN := Lib.hid (Blk.new_at (w.alloc (.cells #[.int .u8 0, .int .i64 0, .slice none 0 0] 24)) #[.int .u8 0, .int .i64 0, .slice none 0 0] 24 (k := w.heap.size + 1) (by simp))
  obtain ⟨v, I, a, hb, hs, hI, hl, hd⟩ := H.out.tx.ex
  have b0 := hb.cell 0
  have b1 := hb.cell 1
  have b3 := hb.cell 3
  have hn4 := hL.1
  have h0I : (0 : Int) ≤ (I : Int) := by omega
  clear h
  have ha : a = -1 := by rcases hd with ⟨_, h⟩ | ⟨b', h, _⟩; exact h; rw [hbad] at h; cases h
  subst ha
  have hneg : decide ((0 : Int) ≤ -1) = false := by decide
  have hway : (¬ I < L.length) ∨ ∃ (tk : Int) (b off cap : Nat), I < L.length ∧ (tk == 2) = false ∧ v = .slice (some ⟨b, off, none⟩) L.length cap ∧ L.length ≤ cap ∧ cap ≤ maxLen ∧ ((w.alloc (.cells #[.int .u8 0, .int .i64 0, .slice none 0 0] 24)).alloc (.cells #[.int .u8 0, .int .i64 0, .slice none 0 0] 24)).cell? ⟨b, off + I * 4, none⟩ = some (.int .u8 tk) := by
    by_cases hlt : I < L.length
    · refine .inr ?_
      have hnum2 := hnum
      obtain ⟨l, bad⟩ := st
      dsimp only at hl
      subst hl
      rw [numB_drop, dif_pos hlt, decide_eq_false_iff_not] at hnum2
      obtain ⟨b, off, cap, rfl, _, d0, d1, d2, d3⟩ := hs.tok I hlt
      have hc1 : L.length ≤ cap ∧ cap ≤ maxLen := by
        obtain ⟨_, a', cap', hv, h2, h3, _⟩ := id hs
        simp only [Value.slice.injEq] at hv
        omega
      exact ⟨_, b, off, cap, hlt, by simpa using hnum2, rfl, hc1.1, hc1.2, d0⟩
    · exact .inl hlt
  obtain ⟨_, a9, c9, hv9, _⟩ := id hs
  subst hv9
  clear hb hs hl hd
  rcases hway with hlt | ⟨tk, b, off, cap, hlt, hk2, hv, hcap, hmx, d0⟩
  · have hg : decide (I < L.length) = false := by rw [decide_eq_false_iff_not]; omega
    go_enter Tryd.func61, Tryd.ntmps61
    go_upto_region 2 with fail
    generalize World.alloc (World.alloc w _) _ = W0 at *
    go_wp2_with fail
    go_quiet (fail)
    have hq0 : Below W0.heap.size W0 (W0.drewN nq) := below_drewN (Below.refl _ _) _
    replace H := Lib.hid (H.out.same hq0)
    replace HN := Lib.hid (HN.out.below hq0 HN.out.lt)
    clear b0 b1 b3 hq0
    generalize W0.drewN nq = W1 at *
    go_wp2_with fail
    have HWD := Lib.hid (Blk.new W1 #[.string { data := #[107, 101, 121] }, .string { data := #[118, 97, 108] }, .string { data := #[97, 99, 99] }] 9)
    have HLW : Hid (w.heap.size < W1.heap.size) := H.out.size
    have hal : Below W1.heap.size W1 (W1.alloc (.cells #[.string { data := #[107, 101, 121] }, .string { data := #[118, 97, 108] }, .string { data := #[97, 99, 99] }] 9)) := (Below.refl _ _).alloc (Nat.le_refl _) _
    have HT1 : Hid (T1 w (W1.alloc (.cells #[.string { data := #[107, 101, 121] }, .string { data := #[118, 97, 108] }, .string { data := #[97, 99, 99] }] 9)) bt W1.heap.size E L st) := ⟨H.out.same hal, HN.out.below hal HN.out.lt, HWD.out, HLW.out⟩
    clear H HN HWD hal
    generalize hwb : W1.heap.size = wb at *
    generalize W1.alloc _ = W2 at *
    clear hwb HLW
    go_loopw [5] (fun i wr => ∃ j : Nat, j ≤ 3 ∧ i = .int .i64 j ∧ T1 w wr bt wb E L st) (fun i _ => 4 - (intOf i).toNat)
    case atStart => exact ⟨0, by omega, rfl, HT1.out⟩
    case round =>
      obtain ⟨j, hj, rfl, ht1⟩ := hrel
      replace HT1 := Lib.hid ht1
      have k0 := ht1.wd.cell 0
      have k1 := ht1.wd.cell 1
      have k2 := ht1.wd.cell 2
      clear ht1
      rcases (by omega : j = 0 ∨ j = 1 ∨ j = 2 ∨ j = 3) with rfl | rfl | rfl | rfl
      · go_wp2_with fail
        refine (tis_l hL s_key h_key.out _ HT1.out.tr.tx).mono ?_
        rintro e wq ⟨rfl, hbq⟩
        replace HT1 := Lib.hid (HT1.out.same hbq)
        clear hbq k0 k1 k2
        go_wp2_with fail
        go_roundw
        case rel => exact ⟨1, by omega, by go_num, HT1.out⟩
        case measure => simp [intOf]
      · go_wp2_with fail
        refine (tis_l hL s_val h_val.out _ HT1.out.tr.tx).mono ?_
        rintro e wq ⟨rfl, hbq⟩
        replace HT1 := Lib.hid (HT1.out.same hbq)
        clear hbq k0 k1 k2
        go_wp2_with fail
        go_roundw
        case rel => exact ⟨2, by omega, by go_num, HT1.out⟩
        case measure => simp [intOf]
      · go_wp2_with fail
        refine (tis_l hL s_acc h_acc.out _ HT1.out.tr.tx).mono ?_
        rintro e wq ⟨rfl, hbq⟩
        replace HT1 := Lib.hid (HT1.out.same hbq)
        clear hbq k0 k1 k2
        go_wp2_with fail
        go_roundw
        case rel => exact ⟨3, by omega, by go_num, HT1.out⟩
        case measure => simp [intOf]
      · clear k0 k1 k2
        go_wp2_with fail
        refine (tis_l hL s_open h_open.out _ HT1.out.tr.tx).mono ?_
        rintro e wq ⟨rfl, hbq⟩
        replace HT1 := Lib.hid (HT1.out.same hbq)
        clear hbq
        go_wp2_with fail
        refine (tis_l hL s_if h_if.out _ HT1.out.tr.tx).mono ?_
        rintro e wq ⟨rfl, hbq⟩
        replace HT1 := Lib.hid (HT1.out.same hbq)
        clear hbq
        obtain ⟨v, I, a, hb, hs, hI, hl, hd⟩ := HT1.out.tr.tx.ex
        have hlt := isB_some hl h_if.out
        have b1 := hb.cell 1
        have f1 := hb.free 1
        have hn4 := hL.1
        have TX := Lib.hid (TxAt.bump hb hs hlt hl hd)
        have HF := Lib.hid ((Fr.refl (fun k => k = bt) wq).setCell (p := ⟨bt, 1, none⟩) (.inl rfl) (.int .i64 ((I : Int) + 1)))
        clear hb hs hl hd
        go_upto_region 21 with fail
        have H := Lib.hid (HT1.out.tr.call HF.out TX.out)
        generalize wq.setCell _ _ = wz at *
        clear b1 f1 TX HF hlt hI HT1
        have hz1 := H.out.size
        go_wp2_with fail
        refine (h00.out _ HL.out st.next _ (Nat.le_refl _) H.out.tx).mono ?_
        rw [HPA.out]
        rintro e wr1 ⟨_, rfl, ha, hr, hf⟩
        obtain ⟨a1, n1, c1, rfl⟩ := ha.slice
        replace H := Lib.hid (H.out.call hf hr)
        have hfs := hf.size
        have hal : Below wr1.heap.size wr1 (wr1.alloc (.cells #[.int .u8 pa.1.op, .int .i64 pa.1.n, .slice a1 n1 c1] 24)) := (Below.refl _ _).alloc (Nat.le_refl _) _
        go_upto_region 22 with fail
        have K1 := Lib.hid (KX.mk_ (w := w) hz1 hfs ha)
        replace H := Lib.hid (H.out.same hal)
        clear ha hr hf hal hfs
        generalize hxb1 : wr1.heap.size = xb1 at *
        generalize wr1.alloc _ = wv1 at *
        clear hxb1
        go_wp2_with fail
        refine (t_must bt E hE L hL _ _ _ s_then _ H.out.tx).mono ?_
        rw [HS2.out]
        rintro e wm1 ⟨rfl, ht, hf⟩
        replace H := Lib.hid (H.out.call hf ht)
        replace K1 := Lib.hid (K1.out.step H.out.lt hf)
        clear ht hf
        have hz2 := H.out.size
        go_wp2_with fail
        refine (h00.out _ HL.out s2 _ HL2.out H.out.tx).mono ?_
        rw [HPB.out]
        rintro e wr2 ⟨_, rfl, ha, hr, hf⟩
        obtain ⟨a2, n2, c2, rfl⟩ := ha.slice
        replace H := Lib.hid (H.out.call hf hr)
        replace K1 := Lib.hid (K1.out.step H.out.lt hf)
        have hfs := hf.size
        have hal : Below wr2.heap.size wr2 (wr2.alloc (.cells #[.int .u8 pb.1.op, .int .i64 pb.1.n, .slice a2 n2 c2] 24)) := (Below.refl _ _).alloc (Nat.le_refl _) _
        go_upto_region 24 with fail
        have K2 := Lib.hid (KX.mk_ (w := w) hz2 hfs ha)
        replace K1 := Lib.hid (K1.out.step H.out.lt (Fr.of_new hal))
        replace H := Lib.hid (H.out.same hal)
        clear ha hr hf hal hfs
        generalize hxb2 : wr2.heap.size = xb2 at *
        generalize wr2.alloc _ = wv2 at *
        clear hxb2
        go_wp2_with fail
        refine (t_must bt E hE L hL _ _ _ s_else _ H.out.tx).mono ?_
        rw [HS3.out]
        rintro e wm2 ⟨rfl, ht, hf⟩
        replace H := Lib.hid (H.out.call hf ht)
        replace K1 := Lib.hid (K1.out.step H.out.lt hf)
        replace K2 := Lib.hid (K2.out.step H.out.lt hf)
        clear ht hf
        have hz3 := H.out.size
        go_wp2_with fail
        refine (h00.out _ HL.out s3 _ HL3.out H.out.tx).mono ?_
        rw [HPC.out]
        rintro e wr3 ⟨_, rfl, ha, hr, hf⟩
        obtain ⟨a3, n3, c3, rfl⟩ := ha.slice
        replace H := Lib.hid (H.out.call hf hr)
        replace K1 := Lib.hid (K1.out.step H.out.lt hf)
        replace K2 := Lib.hid (K2.out.step H.out.lt hf)
        have hfs := hf.size
        have hal : Below wr3.heap.size wr3 (wr3.alloc (.cells #[.int .u8 pc.1.op, .int .i64 pc.1.n, .slice a3 n3 c3] 24)) := (Below.refl _ _).alloc (Nat.le_refl _) _
        go_upto_region 26 with fail
        have K3 := Lib.hid (KX.mk_ (w := w) hz3 hfs ha)
        replace K1 := Lib.hid (K1.out.step H.out.lt (Fr.of_new hal))
        replace K2 := Lib.hid (K2.out.step H.out.lt (Fr.of_new hal))
        replace H := Lib.hid (H.out.same hal)
        clear ha hr hf hal hfs
        generalize hxb3 : wr3.heap.size = xb3 at *
        generalize wr3.alloc _ = wv3 at *
        clear hxb3
        have x0 := K1.out.blk.cell 0
        have x1 := K1.out.blk.cell 1
        have x2 := K1.out.blk.cell 2
        have y0 := K2.out.blk.cell 0
        have y1 := K2.out.blk.cell 1
        have y2 := K2.out.blk.cell 2
        have u0 := K3.out.blk.cell 0
        have u1 := K3.out.blk.cell 1
        have u2 := K3.out.blk.cell 2
        have z0 := H.out.res.cell 0
        have z1 := H.out.res.cell 1
        have z2 := H.out.res.cell 2
        have q0 := H.out.res.free 0
        have q1 := H.out.res.free 1
        have q2 := H.out.res.free 2
        have hsz := H.out.size
        go_wp2_with fail
        obtain ⟨p1, p2⟩ := tPost_new (op := 18) (l := [pa.1, pb.1, pc.1]) (n := 3) H.out (fun W P hb hP hk => ArgsIn.three hb hP (hk _ _ (K1.out.args.mono fun b hb => ⟨hb.1, hb.2.2⟩)) (hk _ _ (K2.out.args.mono fun b hb => ⟨hb.1, hb.2.2⟩)) (hk _ _ (K3.out.args.mono fun b hb => ⟨hb.1, hb.2.2⟩)))
        refine bodyPost_ret (v := .agg #[_, _, _]) (results_cell_row rfl _ _ w.heap.size 24 _ (0, 0) _ rfl p2 Tryd.underlying24 rfl ?_) rfl p1
        as_aux_lemma => kernel_rfl
  · have hg : decide (I < L.length) = true := by rw [decide_eq_true_eq]; exact hlt
    have hlI : (I : Int) < (L.length : Int) := by omega
    simp only [Value.slice.injEq, true_and] at hv
    obtain ⟨rfl, rfl⟩ := hv
    unfold maxLen at hmx
    go_enter Tryd.func61, Tryd.ntmps61
    go_upto_region 2 with fail
    generalize World.alloc (World.alloc w _) _ = W0 at *
    go_wp2_with fail
    go_quiet (fail)
    have hq0 : Below W0.heap.size W0 (W0.drewN nq) := below_drewN (Below.refl _ _) _
    replace H := Lib.hid (H.out.same hq0)
    replace HN := Lib.hid (HN.out.below hq0 HN.out.lt)
    clear b0 b1 b3 hq0
    clear d0
    generalize W0.drewN nq = W1 at *
    go_wp2_with fail
    have HWD := Lib.hid (Blk.new W1 #[.string { data := #[107, 101, 121] }, .string { data := #[118, 97, 108] }, .string { data := #[97, 99, 99] }] 9)
    have HLW : Hid (w.heap.size < W1.heap.size) := H.out.size
    have hal : Below W1.heap.size W1 (W1.alloc (.cells #[.string { data := #[107, 101, 121] }, .string { data := #[118, 97, 108] }, .string { data := #[97, 99, 99] }] 9)) := (Below.refl _ _).alloc (Nat.le_refl _) _
    have HT1 : Hid (T1 w (W1.alloc (.cells #[.string { data := #[107, 101, 121] }, .string { data := #[118, 97, 108] }, .string { data := #[97, 99, 99] }] 9)) bt W1.heap.size E L st) := ⟨H.out.same hal, HN.out.below hal HN.out.lt, HWD.out, HLW.out⟩
    clear H HN HWD hal
    generalize hwb : W1.heap.size = wb at *
    generalize W1.alloc _ = W2 at *
    clear hwb HLW
    go_loopw [5] (fun i wr => ∃ j : Nat, j ≤ 3 ∧ i = .int .i64 j ∧ T1 w wr bt wb E L st) (fun i _ => 4 - (intOf i).toNat)
    case atStart => exact ⟨0, by omega, rfl, HT1.out⟩
    case round =>
      obtain ⟨j, hj, rfl, ht1⟩ := hrel
      replace HT1 := Lib.hid ht1
      have k0 := ht1.wd.cell 0
      have k1 := ht1.wd.cell 1
      have k2 := ht1.wd.cell 2
      clear ht1
      rcases (by omega : j = 0 ∨ j = 1 ∨ j = 2 ∨ j = 3) with rfl | rfl | rfl | rfl
      · go_wp2_with fail
        refine (tis_l hL s_key h_key.out _ HT1.out.tr.tx).mono ?_
        rintro e wq ⟨rfl, hbq⟩
        replace HT1 := Lib.hid (HT1.out.same hbq)
        clear hbq k0 k1 k2
        go_wp2_with fail
        go_roundw
        case rel => exact ⟨1, by omega, by go_num, HT1.out⟩
        case measure => simp [intOf]
      · go_wp2_with fail
        refine (tis_l hL s_val h_val.out _ HT1.out.tr.tx).mono ?_
        rintro e wq ⟨rfl, hbq⟩
        replace HT1 := Lib.hid (HT1.out.same hbq)
        clear hbq k0 k1 k2
        go_wp2_with fail
        go_roundw
        case rel => exact ⟨2, by omega, by go_num, HT1.out⟩
        case measure => simp [intOf]
      · go_wp2_with fail
        refine (tis_l hL s_acc h_acc.out _ HT1.out.tr.tx).mono ?_
        rintro e wq ⟨rfl, hbq⟩
        replace HT1 := Lib.hid (HT1.out.same hbq)
        clear hbq k0 k1 k2
        go_wp2_with fail
        go_roundw
        case rel => exact ⟨3, by omega, by go_num, HT1.out⟩
        case measure => simp [intOf]
      · clear k0 k1 k2
        go_wp2_with fail
        refine (tis_l hL s_open h_open.out _ HT1.out.tr.tx).mono ?_
        rintro e wq ⟨rfl, hbq⟩
        replace HT1 := Lib.hid (HT1.out.same hbq)
        clear hbq
        go_wp2_with fail
        refine (tis_l hL s_if h_if.out _ HT1.out.tr.tx).mono ?_
        rintro e wq ⟨rfl, hbq⟩
        replace HT1 := Lib.hid (HT1.out.same hbq)
        clear hbq
        obtain ⟨v, I, a, hb, hs, hI, hl, hd⟩ := HT1.out.tr.tx.ex
        have hlt := isB_some hl h_if.out
        have b1 := hb.cell 1
        have f1 := hb.free 1
        have hn4 := hL.1
        have TX := Lib.hid (TxAt.bump hb hs hlt hl hd)
        have HF := Lib.hid ((Fr.refl (fun k => k = bt) wq).setCell (p := ⟨bt, 1, none⟩) (.inl rfl) (.int .i64 ((I : Int) + 1)))
        clear hb hs hl hd
        go_upto_region 21 with fail
        have H := Lib.hid (HT1.out.tr.call HF.out TX.out)
        generalize wq.setCell _ _ = wz at *
        clear b1 f1 TX HF hlt hI HT1
        have hz1 := H.out.size
        go_wp2_with fail
        refine (h00.out _ HL.out st.next _ (Nat.le_refl _) H.out.tx).mono ?_
        rw [HPA.out]
        rintro e wr1 ⟨_, rfl, ha, hr, hf⟩
        obtain ⟨a1, n1, c1, rfl⟩ := ha.slice
        replace H := Lib.hid (H.out.call hf hr)
        have hfs := hf.size
        have hal : Below wr1.heap.size wr1 (wr1.alloc (.cells #[.int .u8 pa.1.op, .int .i64 pa.1.n, .slice a1 n1 c1] 24)) := (Below.refl _ _).alloc (Nat.le_refl _) _
        go_upto_region 22 with fail
        have K1 := Lib.hid (KX.mk_ (w := w) hz1 hfs ha)
        replace H := Lib.hid (H.out.same hal)
        clear ha hr hf hal hfs
        generalize hxb1 : wr1.heap.size = xb1 at *
        generalize wr1.alloc _ = wv1 at *
        clear hxb1
        go_wp2_with fail
        refine (t_must bt E hE L hL _ _ _ s_then _ H.out.tx).mono ?_
        rw [HS2.out]
        rintro e wm1 ⟨rfl, ht, hf⟩
        replace H := Lib.hid (H.out.call hf ht)
        replace K1 := Lib.hid (K1.out.step H.out.lt hf)
        clear ht hf
        have hz2 := H.out.size
        go_wp2_with fail
        refine (h00.out _ HL.out s2 _ HL2.out H.out.tx).mono ?_
        rw [HPB.out]
        rintro e wr2 ⟨_, rfl, ha, hr, hf⟩
        obtain ⟨a2, n2, c2, rfl⟩ := ha.slice
        replace H := Lib.hid (H.out.call hf hr)
        replace K1 := Lib.hid (K1.out.step H.out.lt hf)
        have hfs := hf.size
        have hal : Below wr2.heap.size wr2 (wr2.alloc (.cells #[.int .u8 pb.1.op, .int .i64 pb.1.n, .slice a2 n2 c2] 24)) := (Below.refl _ _).alloc (Nat.le_refl _) _
        go_upto_region 24 with fail
        have K2 := Lib.hid (KX.mk_ (w := w) hz2 hfs ha)
        replace K1 := Lib.hid (K1.out.step H.out.lt (Fr.of_new hal))
        replace H := Lib.hid (H.out.same hal)
        clear ha hr hf hal hfs
        generalize hxb2 : wr2.heap.size = xb2 at *
        generalize wr2.alloc _ = wv2 at *
        clear hxb2
        go_wp2_with fail
        refine (t_must bt E hE L hL _ _ _ s_else _ H.out.tx).mono ?_
        rw [HS3.out]
        rintro e wm2 ⟨rfl, ht, hf⟩
        replace H := Lib.hid (H.out.call hf ht)
        replace K1 := Lib.hid (K1.out.step H.out.lt hf)
        replace K2 := Lib.hid (K2.out.step H.out.lt hf)
        clear ht hf
        have hz3 := H.out.size
        go_wp2_with fail
        refine (h00.out _ HL.out s3 _ HL3.out H.out.tx).mono ?_
        rw [HPC.out]
        rintro e wr3 ⟨_, rfl, ha, hr, hf⟩
        obtain ⟨a3, n3, c3, rfl⟩ := ha.slice
        replace H := Lib.hid (H.out.call hf hr)
        replace K1 := Lib.hid (K1.out.step H.out.lt hf)
        replace K2 := Lib.hid (K2.out.step H.out.lt hf)
        have hfs := hf.size
        have hal : Below wr3.heap.size wr3 (wr3.alloc (.cells #[.int .u8 pc.1.op, .int .i64 pc.1.n, .slice a3 n3 c3] 24)) := (Below.refl _ _).alloc (Nat.le_refl _) _
        go_upto_region 26 with fail
        have K3 := Lib.hid (KX.mk_ (w := w) hz3 hfs ha)
        replace K1 := Lib.hid (K1.out.step H.out.lt (Fr.of_new hal))
        replace K2 := Lib.hid (K2.out.step H.out.lt (Fr.of_new hal))
        replace H := Lib.hid (H.out.same hal)
        clear ha hr hf hal hfs
        generalize hxb3 : wr3.heap.size = xb3 at *
        generalize wr3.alloc _ = wv3 at *
        clear hxb3
        have x0 := K1.out.blk.cell 0
        have x1 := K1.out.blk.cell 1
        have x2 := K1.out.blk.cell 2
        have y0 := K2.out.blk.cell 0
        have y1 := K2.out.blk.cell 1
        have y2 := K2.out.blk.cell 2
        have u0 := K3.out.blk.cell 0
        have u1 := K3.out.blk.cell 1
        have u2 := K3.out.blk.cell 2
        have z0 := H.out.res.cell 0
        have z1 := H.out.res.cell 1
        have z2 := H.out.res.cell 2
        have q0 := H.out.res.free 0
        have q1 := H.out.res.free 1
        have q2 := H.out.res.free 2
        have hsz := H.out.size
        go_wp2_with fail
        obtain ⟨p1, p2⟩ := tPost_new (op := 18) (l := [pa.1, pb.1, pc.1]) (n := 3) H.out (fun W P hb hP hk => ArgsIn.three hb hP (hk _ _ (K1.out.args.mono fun b hb => ⟨hb.1, hb.2.2⟩)) (hk _ _ (K2.out.args.mono fun b hb => ⟨hb.1, hb.2.2⟩)) (hk _ _ (K3.out.args.mono fun b hb => ⟨hb.1, hb.2.2⟩)))
        refine bodyPost_ret (v := .agg #[_, _, _]) (results_cell_row rfl _ _ w.heap.size 24 _ (0, 0) _ rfl p2 Tryd.underlying24 rfl ?_) rfl p1
        as_aux_lemma => kernel_rfl

set_option maxRecDepth 100000 in
set_option maxHeartbeats 2000000 in
theorem tone_fails (bt : Nat) (E : Int) (hE : 0 ≤ E) (L : List Tok) (hL : TkOk L) (st : PSt) (w : World) (h : TxAt w bt E L st) (hbad : st.bad = none) (hnum : st.numB = false) (h_key : Hid (st.isB wKey = false)) (h_val : Hid (st.isB wVal = false)) (h_acc : Hid (st.isB wAcc = false)) (h_open : Hid (st.isB [40] = false)) (h_if : Hid (st.isB wIf = false)) :
    Calls Tryd.prog 61 #[.pointer (some ⟨bt, 0, none⟩)] w (PrPost w (fun w st => TxAt w bt E L st) bt (Ex.zero, st.fails E)) := by
  have H := Lib.hid ((TR.start h).same ((Below.refl _ _).alloc (Nat.le_refl _) (.cells #[.int .u8 0, .int .i64 0, .slice none 0 0] 24)))
  have HN := Lib.hid (Blk.new_at (w.alloc (.cells #[.int .u8 0, .int .i64 0, .slice none 0 0] 24)) #[.int .u8 0, .int .i64 0, .slice none 0 0] 24 (k := w.heap.size + 1) (by simp))
  obtain ⟨v, I, a, hb, hs, hI, hl, hd⟩ := H.out.tx.ex
  have b0 := hb.cell 0
  have b1 := hb.cell 1
  have b3 := hb.cell 3
  have hn4 := hL.1
  have h0I : (0 : Int) ≤ (I : Int) := by omega
  clear h
  have ha : a = -1 := by rcases hd with ⟨_, h⟩ | ⟨b', h, _⟩; exact h; rw [hbad] at h; cases h
  subst ha
  have hneg : decide ((0 : Int) ≤ -1) = false := by decide
  have hway : (¬ I < L.length) ∨ ∃ (tk : Int) (b off cap : Nat), I < L.length ∧ (tk == 2) = false ∧ v = .slice (some ⟨b, off, none⟩) L.length cap ∧ L.length ≤ cap ∧ cap ≤ maxLen ∧ ((w.alloc (.cells #[.int .u8 0, .int .i64 0, .slice none 0 0] 24)).alloc (.cells #[.int .u8 0, .int .i64 0, .slice none 0 0] 24)).cell? ⟨b, off + I * 4, none⟩ = some (.int .u8 tk) := by
    by_cases hlt : I < L.length
    · refine .inr ?_
      have hnum2 := hnum
      obtain ⟨l, bad⟩ := st
      dsimp only at hl
      subst hl
      rw [numB_drop, dif_pos hlt, decide_eq_false_iff_not] at hnum2
      obtain ⟨b, off, cap, rfl, _, d0, d1, d2, d3⟩ := hs.tok I hlt
      have hc1 : L.length ≤ cap ∧ cap ≤ maxLen := by
        obtain ⟨_, a', cap', hv, h2, h3, _⟩ := id hs
        simp only [Value.slice.injEq] at hv
        omega
      exact ⟨_, b, off, cap, hlt, by simpa using hnum2, rfl, hc1.1, hc1.2, d0⟩
    · exact .inl hlt
  obtain ⟨_, a9, c9, hv9, _⟩ := id hs
  subst hv9
  clear hb hs hl hd
  rcases hway with hlt | ⟨tk, b, off, cap, hlt, hk2, hv, hcap, hmx, d0⟩
  · have hg : decide (I < L.length) = false := by rw [decide_eq_false_iff_not]; omega
    go_enter Tryd.func61, Tryd.ntmps61
    go_upto_region 2 with fail
    generalize World.alloc (World.alloc w _) _ = W0 at *
    go_wp2_with fail
    go_quiet (fail)
    have hq0 : Below W0.heap.size W0 (W0.drewN nq) := below_drewN (Below.refl _ _) _
    replace H := Lib.hid (H.out.same hq0)
    replace HN := Lib.hid (HN.out.below hq0 HN.out.lt)
    clear b0 b1 b3 hq0
    generalize W0.drewN nq = W1 at *
    go_wp2_with fail
    have HWD := Lib.hid (Blk.new W1 #[.string { data := #[107, 101, 121] }, .string { data := #[118, 97, 108] }, .string { data := #[97, 99, 99] }] 9)
    have HLW : Hid (w.heap.size < W1.heap.size) := H.out.size
    have hal : Below W1.heap.size W1 (W1.alloc (.cells #[.string { data := #[107, 101, 121] }, .string { data := #[118, 97, 108] }, .string { data := #[97, 99, 99] }] 9)) := (Below.refl _ _).alloc (Nat.le_refl _) _
    have HT1 : Hid (T1 w (W1.alloc (.cells #[.string { data := #[107, 101, 121] }, .string { data := #[118, 97, 108] }, .string { data := #[97, 99, 99] }] 9)) bt W1.heap.size E L st) := ⟨H.out.same hal, HN.out.below hal HN.out.lt, HWD.out, HLW.out⟩
    clear H HN HWD hal
    generalize hwb : W1.heap.size = wb at *
    generalize W1.alloc _ = W2 at *
    clear hwb HLW
    go_loopw [5] (fun i wr => ∃ j : Nat, j ≤ 3 ∧ i = .int .i64 j ∧ T1 w wr bt wb E L st) (fun i _ => 4 - (intOf i).toNat)
    case atStart => exact ⟨0, by omega, rfl, HT1.out⟩
    case round =>
      obtain ⟨j, hj, rfl, ht1⟩ := hrel
      replace HT1 := Lib.hid ht1
      have k0 := ht1.wd.cell 0
      have k1 := ht1.wd.cell 1
      have k2 := ht1.wd.cell 2
      clear ht1
      rcases (by omega : j = 0 ∨ j = 1 ∨ j = 2 ∨ j = 3) with rfl | rfl | rfl | rfl
      · go_wp2_with fail
        refine (tis_l hL s_key h_key.out _ HT1.out.tr.tx).mono ?_
        rintro e wq ⟨rfl, hbq⟩
        replace HT1 := Lib.hid (HT1.out.same hbq)
        clear hbq k0 k1 k2
        go_wp2_with fail
        go_roundw
        case rel => exact ⟨1, by omega, by go_num, HT1.out⟩
        case measure => simp [intOf]
      · go_wp2_with fail
        refine (tis_l hL s_val h_val.out _ HT1.out.tr.tx).mono ?_
        rintro e wq ⟨rfl, hbq⟩
        replace HT1 := Lib.hid (HT1.out.same hbq)
        clear hbq k0 k1 k2
        go_wp2_with fail
        go_roundw
        case rel => exact ⟨2, by omega, by go_num, HT1.out⟩
        case measure => simp [intOf]
      · go_wp2_with fail
        refine (tis_l hL s_acc h_acc.out _ HT1.out.tr.tx).mono ?_
        rintro e wq ⟨rfl, hbq⟩
        replace HT1 := Lib.hid (HT1.out.same hbq)
        clear hbq k0 k1 k2
        go_wp2_with fail
        go_roundw
        case rel => exact ⟨3, by omega, by go_num, HT1.out⟩
        case measure => simp [intOf]
      · clear k0 k1 k2
        go_wp2_with fail
        refine (tis_l hL s_open h_open.out _ HT1.out.tr.tx).mono ?_
        rintro e wq ⟨rfl, hbq⟩
        replace HT1 := Lib.hid (HT1.out.same hbq)
        clear hbq
        go_wp2_with fail
        refine (tis_l hL s_if h_if.out _ HT1.out.tr.tx).mono ?_
        rintro e wq ⟨rfl, hbq⟩
        replace HT1 := Lib.hid (HT1.out.same hbq)
        clear hbq
        go_wp2_with fail
        refine (at_c bt E L hL st _ HT1.out.tr.tx).mono ?_
        rintro e wq ⟨rfl, hbq⟩
        replace HT1 := Lib.hid (HT1.out.same hbq)
        clear hbq
        obtain ⟨v, I, a, hb, hs, hI, hl, hd⟩ := HT1.out.tr.tx.ex
        have ha : a = -1 := by rcases hd with ⟨_, h⟩ | ⟨b', h, _⟩; exact h; rw [hbad] at h; cases h
        subst ha
        have b3 := hb.cell 3
        have f3 := hb.free 3
        have TX := Lib.hid (TxAt.wrong hb hs hI hl hbad (here_pos hE hL hl))
        have HF := Lib.hid ((Fr.refl (fun k => k = bt) wq).setCell (p := ⟨bt, 3, none⟩) (.inl rfl) (.int .i64 (st.here E)))
        clear hb hs hl hd
        go_upto_region 28 with fail
        replace HT1 := Lib.hid (HT1.out.call HF.out TX.out)
        generalize wq.setCell _ _ = wz at *
        clear b3 f3 TX HF hI
        have H := Lib.hid HT1.out.tr
        have n0 := HT1.out.non.cell 0
        have n1 := HT1.out.non.cell 1
        have n2 := HT1.out.non.cell 2
        clear HT1
        have z0 := H.out.res.cell 0
        have z1 := H.out.res.cell 1
        have z2 := H.out.res.cell 2
        have q0 := H.out.res.free 0
        have q1 := H.out.res.free 1
        have q2 := H.out.res.free 2
        have hsz := H.out.size
        go_wp2_with fail
        obtain ⟨p1, p2⟩ := tPost_pass (x := Ex.zero) (sv := .slice none 0 0) H.out (.nil none 0 (Nat.zero_le _))
        refine bodyPost_ret (v := .agg #[_, _, _]) (results_cell_row rfl _ _ w.heap.size 24 _ (0, 0) _ rfl p2 Tryd.underlying24 rfl ?_) rfl p1
        as_aux_lemma => kernel_rfl
  · have hg : decide (I < L.length) = true := by rw [decide_eq_true_eq]; exact hlt
    have hlI : (I : Int) < (L.length : Int) := by omega
    simp only [Value.slice.injEq, true_and] at hv
    obtain ⟨rfl, rfl⟩ := hv
    unfold maxLen at hmx
    go_enter Tryd.func61, Tryd.ntmps61
    go_upto_region 2 with fail
    generalize World.alloc (World.alloc w _) _ = W0 at *
    go_wp2_with fail
    go_quiet (fail)
    have hq0 : Below W0.heap.size W0 (W0.drewN nq) := below_drewN (Below.refl _ _) _
    replace H := Lib.hid (H.out.same hq0)
    replace HN := Lib.hid (HN.out.below hq0 HN.out.lt)
    clear b0 b1 b3 hq0
    clear d0
    generalize W0.drewN nq = W1 at *
    go_wp2_with fail
    have HWD := Lib.hid (Blk.new W1 #[.string { data := #[107, 101, 121] }, .string { data := #[118, 97, 108] }, .string { data := #[97, 99, 99] }] 9)
    have HLW : Hid (w.heap.size < W1.heap.size) := H.out.size
    have hal : Below W1.heap.size W1 (W1.alloc (.cells #[.string { data := #[107, 101, 121] }, .string { data := #[118, 97, 108] }, .string { data := #[97, 99, 99] }] 9)) := (Below.refl _ _).alloc (Nat.le_refl _) _
    have HT1 : Hid (T1 w (W1.alloc (.cells #[.string { data := #[107, 101, 121] }, .string { data := #[118, 97, 108] }, .string { data := #[97, 99, 99] }] 9)) bt W1.heap.size E L st) := ⟨H.out.same hal, HN.out.below hal HN.out.lt, HWD.out, HLW.out⟩
    clear H HN HWD hal
    generalize hwb : W1.heap.size = wb at *
    generalize W1.alloc _ = W2 at *
    clear hwb HLW
    go_loopw [5] (fun i wr => ∃ j : Nat, j ≤ 3 ∧ i = .int .i64 j ∧ T1 w wr bt wb E L st) (fun i _ => 4 - (intOf i).toNat)
    case atStart => exact ⟨0, by omega, rfl, HT1.out⟩
    case round =>
      obtain ⟨j, hj, rfl, ht1⟩ := hrel
      replace HT1 := Lib.hid ht1
      have k0 := ht1.wd.cell 0
      have k1 := ht1.wd.cell 1
      have k2 := ht1.wd.cell 2
      clear ht1
      rcases (by omega : j = 0 ∨ j = 1 ∨ j = 2 ∨ j = 3) with rfl | rfl | rfl | rfl
      · go_wp2_with fail
        refine (tis_l hL s_key h_key.out _ HT1.out.tr.tx).mono ?_
        rintro e wq ⟨rfl, hbq⟩
        replace HT1 := Lib.hid (HT1.out.same hbq)
        clear hbq k0 k1 k2
        go_wp2_with fail
        go_roundw
        case rel => exact ⟨1, by omega, by go_num, HT1.out⟩
        case measure => simp [intOf]
      · go_wp2_with fail
        refine (tis_l hL s_val h_val.out _ HT1.out.tr.tx).mono ?_
        rintro e wq ⟨rfl, hbq⟩
        replace HT1 := Lib.hid (HT1.out.same hbq)
        clear hbq k0 k1 k2
        go_wp2_with fail
        go_roundw
        case rel => exact ⟨2, by omega, by go_num, HT1.out⟩
        case measure => simp [intOf]
      · go_wp2_with fail
        refine (tis_l hL s_acc h_acc.out _ HT1.out.tr.tx).mono ?_
        rintro e wq ⟨rfl, hbq⟩
        replace HT1 := Lib.hid (HT1.out.same hbq)
        clear hbq k0 k1 k2
        go_wp2_with fail
        go_roundw
        case rel => exact ⟨3, by omega, by go_num, HT1.out⟩
        case measure => simp [intOf]
      · clear k0 k1 k2
        go_wp2_with fail
        refine (tis_l hL s_open h_open.out _ HT1.out.tr.tx).mono ?_
        rintro e wq ⟨rfl, hbq⟩
        replace HT1 := Lib.hid (HT1.out.same hbq)
        clear hbq
        go_wp2_with fail
        refine (tis_l hL s_if h_if.out _ HT1.out.tr.tx).mono ?_
        rintro e wq ⟨rfl, hbq⟩
        replace HT1 := Lib.hid (HT1.out.same hbq)
        clear hbq
        go_wp2_with fail
        refine (at_c bt E L hL st _ HT1.out.tr.tx).mono ?_
        rintro e wq ⟨rfl, hbq⟩
        replace HT1 := Lib.hid (HT1.out.same hbq)
        clear hbq
        obtain ⟨v, I, a, hb, hs, hI, hl, hd⟩ := HT1.out.tr.tx.ex
        have ha : a = -1 := by rcases hd with ⟨_, h⟩ | ⟨b', h, _⟩; exact h; rw [hbad] at h; cases h
        subst ha
        have b3 := hb.cell 3
        have f3 := hb.free 3
        have TX := Lib.hid (TxAt.wrong hb hs hI hl hbad (here_pos hE hL hl))
        have HF := Lib.hid ((Fr.refl (fun k => k = bt) wq).setCell (p := ⟨bt, 3, none⟩) (.inl rfl) (.int .i64 (st.here E)))
        clear hb hs hl hd
        go_upto_region 28 with fail
        replace HT1 := Lib.hid (HT1.out.call HF.out TX.out)
        generalize wq.setCell _ _ = wz at *
        clear b3 f3 TX HF hI
        have H := Lib.hid HT1.out.tr
        have n0 := HT1.out.non.cell 0
        have n1 := HT1.out.non.cell 1
        have n2 := HT1.out.non.cell 2
        clear HT1
        have z0 := H.out.res.cell 0
        have z1 := H.out.res.cell 1
        have z2 := H.out.res.cell 2
        have q0 := H.out.res.free 0
        have q1 := H.out.res.free 1
        have q2 := H.out.res.free 2
        have hsz := H.out.size
        go_wp2_with fail
        obtain ⟨p1, p2⟩ := tPost_pass (x := Ex.zero) (sv := .slice none 0 0) H.out (.nil none 0 (Nat.zero_le _))
        refine bodyPost_ret (v := .agg #[_, _, _]) (results_cell_row rfl _ _ w.heap.size 24 _ (0, 0) _ rfl p2 Tryd.underlying24 rfl ?_) rfl p1
        as_aux_lemma => kernel_rfl


end Go.Proofs.YtlkkigpjahlloaaDoor
