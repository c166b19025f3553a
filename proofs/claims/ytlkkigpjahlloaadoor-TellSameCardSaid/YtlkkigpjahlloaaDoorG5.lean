/-
  The walk of the reference's one.
-/
import Derived.Test.YtlkkigpjahlloaaDoorG4
namespace Go.Proofs.YtlkkigpjahlloaaDoor
open Go.RowKit
set_option linter.unusedVariables false
attribute [local go_sem ↓] Go.wp_at_zero Go.wp_at_succ

/-- What stands there besides: the zero expression, the words. -/
structure T1 (w W : World) (bt wb : Nat) (E : Int) (L : List Tok) (st : PSt) : Prop where
  tr : TR w W bt E L st
  non : Blk W (w.heap.size + 1) 24 #[.int .u8 0, .int .i64 0, .slice none 0 0]
  wd : Blk W wb 9 #[.string { data := #[107, 101, 121] }, .string { data := #[118, 97, 108] }, .string { data := #[97, 99, 99] }]
  low : w.heap.size < wb
theorem T1.call {w W W' : World} {bt wb : Nat} {E : Int} {L : List Tok} {st st' : PSt} (h : T1 w W bt wb E L st) (hf : Fr (fun k => k = bt) W W') (ht : TxAt W' bt E L st') : T1 w W' bt wb E L st' := by
  have h1 := h.tr.lt
  have h2 := h.low
  exact ⟨h.tr.call hf ht, h.non.fr hf (by omega), h.wd.fr hf (by omega), h.low⟩
theorem T1.same {w W W' : World} {bt wb : Nat} {E : Int} {L : List Tok} {st : PSt} (h : T1 w W bt wb E L st) (hb : Below W.heap.size W W') : T1 w W' bt wb E L st := h.call (Fr.of_new hb) (h.tr.tx.keep hb)

theorem numB_drop {L : List Tok} {I : Nat} {bad : Option Int} : (⟨L.drop I, bad⟩ : PSt).numB = if h : I < L.length then decide ((L[I]'h).kind = 2) else false := by
  unfold PSt.numB
  by_cases h : I < L.length
  · rw [dif_pos h, List.drop_eq_getElem_cons h]
  · rw [dif_neg h, List.drop_of_length_le (by omega)]
theorem numN_drop {L : List Tok} {I : Nat} {bad : Option Int} (h : I < L.length) : (⟨L.drop I, bad⟩ : PSt).numN = (L[I]'h).n := by
  unfold PSt.numN
  rw [List.drop_eq_getElem_cons h]

set_option maxRecDepth 100000 in
set_option maxHeartbeats 2000000 in
theorem tone_bad (bt : Nat) (E : Int) (hE : 0 ≤ E) (L : List Tok) (hL : TkOk L) (st : PSt) (w : World) (h : TxAt w bt E L st) (hbad : st.bad.isSome = true) :
    Calls Tryd.prog 61 #[.pointer (some ⟨bt, 0, none⟩)] w (PrPost w (fun w st => TxAt w bt E L st) bt (Ex.zero, st)) := by
  have H := Lib.hid ((TR.start h).same ((Below.refl _ _).alloc (Nat.le_refl _) (.cells #[.int .u8 0, .int .i64 0, .slice none 0 0] 24)))
  have HN := Lib.hid (Blk.new_at (w.alloc (.cells #[.int .u8 0, .int .i64 0, .slice none 0 0] 24)) #[.int .u8 0, .int .i64 0, .slice none 0 0] 24 (k := w.heap.size + 1) (by simp))
  obtain ⟨v, I, a, hb, hs, hI, hl, hd⟩ := H.out.tx.ex
  have b0 := hb.cell 0
  have b1 := hb.cell 1
  have b3 := hb.cell 3
  have hn4 := hL.1
  have h0I : (0 : Int) ≤ (I : Int) := by omega
  clear h
  obtain ⟨b, hb0⟩ : ∃ b, st.bad = some b := Option.isSome_iff_exists.1 hbad
  have ha : 0 ≤ a := by rcases hd with ⟨h, _⟩ | ⟨b', _, rfl, hb'⟩; rw [hb0] at h; cases h; exact hb'
  have hg : decide (0 ≤ a) = true := by rw [decide_eq_true_eq]; exact ha
  clear hb hs hl hd hb0 hbad hL b0 b1
  go_enter Tryd.func61, Tryd.ntmps61
  go_upto_region 2 with fail
  generalize World.alloc (World.alloc w _) _ = W0 at *
  have n0 := HN.out.cell 0
  have n1 := HN.out.cell 1
  have n2 := HN.out.cell 2
  have z0 := H.out.res.cell 0
  have z1 := H.out.res.cell 1
  have z2 := H.out.res.cell 2
  have q0 := H.out.res.free 0
  have q1 := H.out.res.free 1
  have q2 := H.out.res.free 2
  have hsz := H.out.size
  go_wp2_with fail
  obtain ⟨p1, p2⟩ := tPost_pass (x := Ex.zero) (sv := .slice none 0 0) H.out (.nil none 0 (Nat.zero_le _))
  refine bodyPost_ret (v := .agg #[_, _, _]) (results_cell_row rfl _ _ w.heap.size 24 _ (0, 0) _ rfl p2 Tryd.underlying24 rfl ?_) rfl p1
  as_aux_lemma => kernel_rfl

set_option maxRecDepth 100000 in
set_option maxHeartbeats 2000000 in
theorem tone_num (bt : Nat) (E : Int) (hE : 0 ≤ E) (L : List Tok) (hL : TkOk L) (st : PSt) (w : World) (h : TxAt w bt E L st) (hbad : st.bad = none) (hnum : st.numB = true) :
    Calls Tryd.prog 61 #[.pointer (some ⟨bt, 0, none⟩)] w (PrPost w (fun w st => TxAt w bt E L st) bt (.mk 1 st.numN [], st.next)) := by
  have H := Lib.hid ((TR.start h).same ((Below.refl _ _).alloc (Nat.le_refl _) (.cells #[.int .u8 0, .int .i64 0, .slice none 0 0] 24)))
  have HN := Lib.hid (Blk.new_at (w.alloc (.cells #[.int .u8 0, .int .i64 0, .slice none 0 0] 24)) #[.int .u8 0, .int .i64 0, .slice none 0 0] 24 (k := w.heap.size + 1) (by simp))
  obtain ⟨v, I, a, hb, hs, hI, hl, hd⟩ := H.out.tx.ex
  have b0 := hb.cell 0
  have b1 := hb.cell 1
  have b3 := hb.cell 3
  have hn4 := hL.1
  have h0I : (0 : Int) ≤ (I : Int) := by omega
  clear h
  have ha : a = -1 := by rcases hd with ⟨_, h⟩ | ⟨b', h, _⟩; exact h; rw [hbad] at h; cases h
  subst ha
  have hneg : decide ((0 : Int) ≤ -1) = false := by decide
  obtain ⟨l, bad⟩ := st
  dsimp only at hl hbad
  subst hl hbad
  have hlt : I < L.length := by
    by_cases h : I < L.length
    · exact h
    · rw [numB_drop, dif_neg h] at hnum; cases hnum
  rw [numN_drop hlt]
  rw [numB_drop, dif_pos hlt, decide_eq_true_eq] at hnum
  obtain ⟨b, off, cap, rfl, _, d0, d1, d2, d3⟩ := hs.tok I hlt
  have hc1 : L.length ≤ cap ∧ cap ≤ maxLen := by
    obtain ⟨_, a', cap', hv, h2, h3, _⟩ := id hs
    simp only [Value.slice.injEq] at hv
    omega
  obtain ⟨hc1, hc2⟩ := hc1
  unfold maxLen at hc2
  rw [hnum] at d0
  have HTX := Lib.hid (fun (W : World) (hbl : Blk W bt 64 #[.slice (some ⟨b, off, none⟩) L.length cap, .int .i64 (I : Int), .int .i64 E, .int .i64 (-1)]) (hs2 : Sl W bt 4 (.slice (some ⟨b, off, none⟩) L.length cap) L.length (toksCells L)) => TxAt.bump (st := ⟨L.drop I, none⟩) hbl hs2 hlt rfl (.inl ⟨rfl, rfl⟩))
  have HBK := Lib.hid hb
  have HSL := Lib.hid hs
  generalize (L[I]'hlt).n = tn at *
  clear hb hs hd hnum d1 d3 hL
  have hlI : (I : Int) < (L.length : Int) := by omega
  have hg : decide ((I : Int) < (L.length : Int)) = true := by rw [decide_eq_true_eq]; exact hlI
  generalize L.length = N at *
  have hbl : b < bt := by
    obtain ⟨_, a', cap', hv, _, _, h4⟩ := HSL.out
    simp only [Value.slice.injEq] at hv
    obtain ⟨rfl, _, _⟩ := hv
    rcases h4 with h4 | ⟨b', off', e, h5, _⟩
    · omega
    · simp only [Option.some.injEq, Addr.mk.injEq] at e
      omega
  have hbw := H.out.lt
  clear hI
  go_enter Tryd.func61, Tryd.ntmps61
  go_upto_region 2 with fail
  generalize World.alloc (World.alloc w _) _ = W0 at *
  go_wp2_with fail
  go_quiet (fail)
  have hq0 : Below W0.heap.size W0 (W0.drewN nq) := below_drewN (Below.refl _ _) _
  replace H := Lib.hid (H.out.same hq0)
  replace HN := Lib.hid (HN.out.below hq0 HN.out.lt)
  replace HSL := Lib.hid (HSL.out.below (hq0.mono (Nat.le_of_lt HBK.out.lt)))
  replace HBK := Lib.hid (HBK.out.below hq0 HBK.out.lt)
  replace d2 : (W0.drewN nq).cell? ⟨b, off + I * 4 + 2, none⟩ = some (.int .i64 tn) := d2
  clear b0 b1 b3 d0
  generalize W0.drewN nq = W1 at *
  have c1 := HBK.out.cell 1
  have f1 := HBK.out.free 1
  go_upto_region 6 with fail
  have HT := Lib.hid (HTX.out W1 HBK.out HSL.out)
  have HF := Lib.hid ((Fr.refl (fun k => k = bt) W1).setCell (p := ⟨bt, 1, none⟩) (.inl rfl) (.int .i64 ((I : Int) + 1)))
  have hbk2 := HBK.out.set 1 (.int .i64 ((I : Int) + 1))
  replace H := Lib.hid (H.out.call HF.out HT.out)
  have e0 : (W1.setCell ⟨bt, 1, none⟩ (.int .i64 ((I : Int) + 1))).cell? ⟨bt, 0, none⟩ = some (.slice (some ⟨b, off, none⟩) N cap) := hbk2.cell 0
  have e1 : (W1.setCell ⟨bt, 1, none⟩ (.int .i64 ((I : Int) + 1))).cell? ⟨bt, 1, none⟩ = some (.int .i64 ((I : Int) + 1)) := hbk2.cell 1
  have e2 : (W1.setCell ⟨bt, 1, none⟩ (.int .i64 ((I : Int) + 1))).cell? ⟨b, off + I * 4 + 2, none⟩ = some (.int .i64 tn) := (World.cell?_setCell_other _ _ _ _ (by simp)).trans d2
  clear c1 f1 hbk2 d2 HBK HSL HTX HT HF hq0
  generalize W1.setCell _ _ = W2 at *
  have hw : IntKind.i64.wrap (I : Int) = (I : Int) := IntWalk.i64_in _ (by omega)
  have z0 := H.out.res.cell 0
  have z1 := H.out.res.cell 1
  have z2 := H.out.res.cell 2
  have q0 := H.out.res.free 0
  have q1 := H.out.res.free 1
  have q2 := H.out.res.free 2
  have hsz := H.out.size
  go_still_tail 13, (by kernel_rfl)
  replace H := Lib.hid (H.out.same (Below.refl _ W2).drew)
  have z0 := H.out.res.cell 0
  have z1 := H.out.res.cell 1
  have z2 := H.out.res.cell 2
  have q0 := H.out.res.free 0
  have q1 := H.out.res.free 1
  have q2 := H.out.res.free 2
  have hsz := H.out.size
  go_wp2_with fail
  obtain ⟨p1, p2⟩ := tPost_pass (x := .mk 1 tn []) (sv := .slice none 0 0) H.out (.nil none 0 (Nat.zero_le _))
  refine bodyPost_ret (v := .agg #[_, _, _]) (results_cell_row rfl _ _ w.heap.size 24 _ (0, 0) _ rfl p2 Tryd.underlying24 rfl ?_) rfl p1
  as_aux_lemma => kernel_rfl

set_option maxRecDepth 100000 in
set_option maxHeartbeats 2000000 in
theorem tone_key (bt : Nat) (E : Int) (hE : 0 ≤ E) (L : List Tok) (hL : TkOk L) (st : PSt) (w : World) (h : TxAt w bt E L st) (hbad : st.bad = none) (hnum : st.numB = false) (h_key : Hid (st.isB wKey = true)) :
    Calls Tryd.prog 61 #[.pointer (some ⟨bt, 0, none⟩)] w (PrPost w (fun w st => TxAt w bt E L st) bt (.mk 2 0 [], st.next)) := by
  have H := Lib.hid ((TR.start h).same ((Below.refl _ _).alloc (Nat.le_refl _) (.cells #[.int .u8 0, .int .i64 0, .slice none 0 0] 24)))
  have HN := Lib.hid (Blk.new_at (w.alloc (.cells #[.int .u8 0, .int .i64 0, .slice none 0 0] 24)) #[.int .u8 0, .int .i64 0, .slice none 0 0] 24 (k := w.heap.size + 1) (by simp))
  obtain ⟨v, I, a, hb, hs, hI, hl, hd⟩ := H.out.tx.ex
  have b0 := hb.cell 0
  have b1 := hb.cell 1
  have b3 := hb.cell 3
  have hn4 := hL.1
  have h0I : (0 : Int) ≤ (I : Int) := by omega
  clear h
  have ha : a = -1 := by rcases hd with ⟨_, h⟩ | ⟨b', h, _⟩; exact h; rw [hbad] at h; cases h
  subst ha
  have hneg : decide ((0 : Int) ≤ -1) = false := by decide
  have hway : (¬ I < L.length) ∨ ∃ (tk : Int) (b off cap : Nat), I < L.length ∧ (tk == 2) = false ∧ v = .slice (some ⟨b, off, none⟩) L.length cap ∧ L.length ≤ cap ∧ cap ≤ maxLen ∧ ((w.alloc (.cells #[.int .u8 0, .int .i64 0, .slice none 0 0] 24)).alloc (.cells #[.int .u8 0, .int .i64 0, .slice none 0 0] 24)).cell? ⟨b, off + I * 4, none⟩ = some (.int .u8 tk) := by
    by_cases hlt : I < L.length
    · refine .inr ?_
      have hnum2 := hnum
      obtain ⟨l, bad⟩ := st
      dsimp only at hl
      subst hl
      rw [numB_drop, dif_pos hlt, decide_eq_false_iff_not] at hnum2
      obtain ⟨b, off, cap, rfl, _, d0, d1, d2, d3⟩ := hs.tok I hlt
      have hc1 : L.length ≤ cap ∧ cap ≤ maxLen := by
        obtain ⟨_, a', cap', hv, h2, h3, _⟩ := id hs
        simp only [Value.slice.injEq] at hv
        omega
      exact ⟨_, b, off, cap, hlt, by simpa using hnum2, rfl, hc1.1, hc1.2, d0⟩
    · exact .inl hlt
  obtain ⟨_, a9, c9, hv9, _⟩ := id hs
  subst hv9
  clear hb hs hl hd
  rcases hway with hlt | ⟨tk, b, off, cap, hlt, hk2, hv, hcap, hmx, d0⟩
  · have hg : decide (I < L.length) = false := by rw [decide_eq_false_iff_not]; omega
    go_enter Tryd.func61, Tryd.ntmps61
    go_upto_region 2 with fail
    generalize World.alloc (World.alloc w _) _ = W0 at *
    go_wp2_with fail
    go_quiet (fail)
    have hq0 : Below W0.heap.size W0 (W0.drewN nq) := below_drewN (Below.refl _ _) _
    replace H := Lib.hid (H.out.same hq0)
    replace HN := Lib.hid (HN.out.below hq0 HN.out.lt)
    clear b0 b1 b3 hq0
    generalize W0.drewN nq = W1 at *
    go_wp2_with fail
    have HWD := Lib.hid (Blk.new W1 #[.string { data := #[107, 101, 121] }, .string { data := #[118, 97, 108] }, .string { data := #[97, 99, 99] }] 9)
    have HLW : Hid (w.heap.size < W1.heap.size) := H.out.size
    have hal : Below W1.heap.size W1 (W1.alloc (.cells #[.string { data := #[107, 101, 121] }, .string { data := #[118, 97, 108] }, .string { data := #[97, 99, 99] }] 9)) := (Below.refl _ _).alloc (Nat.le_refl _) _
    have HT1 : Hid (T1 w (W1.alloc (.cells #[.string { data := #[107, 101, 121] }, .string { data := #[118, 97, 108] }, .string { data := #[97, 99, 99] }] 9)) bt W1.heap.size E L st) := ⟨H.out.same hal, HN.out.below hal HN.out.lt, HWD.out, HLW.out⟩
    clear H HN HWD hal
    generalize hwb : W1.heap.size = wb at *
    generalize W1.alloc _ = W2 at *
    clear hwb HLW
    go_loopw [5] (fun i wr => ∃ j : Nat, j ≤ 0 ∧ i = .int .i64 j ∧ T1 w wr bt wb E L st) (fun i _ => 4 - (intOf i).toNat)
    case atStart => exact ⟨0, by omega, rfl, HT1.out⟩
    case round =>
      obtain ⟨j, hj, rfl, ht1⟩ := hrel
      replace HT1 := Lib.hid ht1
      have k0 := ht1.wd.cell 0
      have k1 := ht1.wd.cell 1
      have k2 := ht1.wd.cell 2
      clear ht1
      obtain rfl : j = 0 := by omega
      go_wp2_with fail
      refine (tis_l hL s_key h_key.out _ HT1.out.tr.tx).mono ?_
      rintro e wq ⟨rfl, hbq⟩
      replace HT1 := Lib.hid (HT1.out.same hbq)
      clear hbq k0 k1 k2
      obtain ⟨v, I, a, hb, hs, hI, hl, hd⟩ := HT1.out.tr.tx.ex
      have hlt := isB_some hl h_key.out
      have b1 := hb.cell 1
      have f1 := hb.free 1
      have hn4 := hL.1
      have TX := Lib.hid (TxAt.bump hb hs hlt hl hd)
      have HF := Lib.hid ((Fr.refl (fun k => k = bt) wq).setCell (p := ⟨bt, 1, none⟩) (.inl rfl) (.int .i64 ((I : Int) + 1)))
      clear hb hs hl hd
      go_upto_region 13 with fail
      have H := Lib.hid (HT1.out.tr.call HF.out TX.out)
      generalize wq.setCell _ _ = wz at *
      clear b1 f1 TX HF hlt hI HT1
      have z0 := H.out.res.cell 0
      have z1 := H.out.res.cell 1
      have z2 := H.out.res.cell 2
      have q0 := H.out.res.free 0
      have q1 := H.out.res.free 1
      have q2 := H.out.res.free 2
      have hsz := H.out.size
      go_wp2_with fail
      obtain ⟨p1, p2⟩ := tPost_pass (x := .mk 2 0 []) (sv := .slice none 0 0) H.out (.nil none 0 (Nat.zero_le _))
      refine bodyPost_ret (v := .agg #[_, _, _]) (results_cell_row rfl _ _ w.heap.size 24 _ (0, 0) _ rfl p2 Tryd.underlying24 rfl ?_) rfl p1
      as_aux_lemma => kernel_rfl
  · have hg : decide (I < L.length) = true := by rw [decide_eq_true_eq]; exact hlt
    have hlI : (I : Int) < (L.length : Int) := by omega
    simp only [Value.slice.injEq, true_and] at hv
    obtain ⟨rfl, rfl⟩ := hv
    unfold maxLen at hmx
    go_enter Tryd.func61, Tryd.ntmps61
    go_upto_region 2 with fail
    generalize World.alloc (World.alloc w _) _ = W0 at *
    go_wp2_with fail
    go_quiet (fail)
    have hq0 : Below W0.heap.size W0 (W0.drewN nq) := below_drewN (Below.refl _ _) _
    replace H := Lib.hid (H.out.same hq0)
    replace HN := Lib.hid (HN.out.below hq0 HN.out.lt)
    clear b0 b1 b3 hq0
    clear d0
    generalize W0.drewN nq = W1 at *
    go_wp2_with fail
    have HWD := Lib.hid (Blk.new W1 #[.string { data := #[107, 101, 121] }, .string { data := #[118, 97, 108] }, .string { data := #[97, 99, 99] }] 9)
    have HLW : Hid (w.heap.size < W1.heap.size) := H.out.size
    have hal : Below W1.heap.size W1 (W1.alloc (.cells #[.string { data := #[107, 101, 121] }, .string { data := #[118, 97, 108] }, .string { data := #[97, 99, 99] }] 9)) := (Below.refl _ _).alloc (Nat.le_refl _) _
    have HT1 : Hid (T1 w (W1.alloc (.cells #[.string { data := #[107, 101, 121] }, .string { data := #[118, 97, 108] }, .string { data := #[97, 99, 99] }] 9)) bt W1.heap.size E L st) := ⟨H.out.same hal, HN.out.below hal HN.out.lt, HWD.out, HLW.out⟩
    clear H HN HWD hal
    generalize hwb : W1.heap.size = wb at *
    generalize W1.alloc _ = W2 at *
    clear hwb HLW
    go_loopw [5] (fun i wr => ∃ j : Nat, j ≤ 0 ∧ i = .int .i64 j ∧ T1 w wr bt wb E L st) (fun i _ => 4 - (intOf i).toNat)
    case atStart => exact ⟨0, by omega, rfl, HT1.out⟩
    case round =>
      obtain ⟨j, hj, rfl, ht1⟩ := hrel
      replace HT1 := Lib.hid ht1
      have k0 := ht1.wd.cell 0
      have k1 := ht1.wd.cell 1
      have k2 := ht1.wd.cell 2
      clear ht1
      obtain rfl : j = 0 := by omega
      go_wp2_with fail
      refine (tis_l hL s_key h_key.out _ HT1.out.tr.tx).mono ?_
      rintro e wq ⟨rfl, hbq⟩
      replace HT1 := Lib.hid (HT1.out.same hbq)
      clear hbq k0 k1 k2
      obtain ⟨v, I, a, hb, hs, hI, hl, hd⟩ := HT1.out.tr.tx.ex
      have hlt := isB_some hl h_key.out
      have b1 := hb.cell 1
      have f1 := hb.free 1
      have hn4 := hL.1
      have TX := Lib.hid (TxAt.bump hb hs hlt hl hd)
      have HF := Lib.hid ((Fr.refl (fun k => k = bt) wq).setCell (p := ⟨bt, 1, none⟩) (.inl rfl) (.int .i64 ((I : Int) + 1)))
      clear hb hs hl hd
      go_upto_region 13 with fail
      have H := Lib.hid (HT1.out.tr.call HF.out TX.out)
      generalize wq.setCell _ _ = wz at *
      clear b1 f1 TX HF hlt hI HT1
      have z0 := H.out.res.cell 0
      have z1 := H.out.res.cell 1
      have z2 := H.out.res.cell 2
      have q0 := H.out.res.free 0
      have q1 := H.out.res.free 1
      have q2 := H.out.res.free 2
      have hsz := H.out.size
      go_wp2_with fail
      obtain ⟨p1, p2⟩ := tPost_pass (x := .mk 2 0 []) (sv := .slice none 0 0) H.out (.nil none 0 (Nat.zero_le _))
      refine bodyPost_ret (v := .agg #[_, _, _]) (results_cell_row rfl _ _ w.heap.size 24 _ (0, 0) _ rfl p2 Tryd.underlying24 rfl ?_) rfl p1
      as_aux_lemma => kernel_rfl

set_option maxRecDepth 100000 in
set_option maxHeartbeats 2000000 in
theorem tone_val (bt : Nat) (E : Int) (hE : 0 ≤ E) (L : List Tok) (hL : TkOk L) (st : PSt) (w : World) (h : TxAt w bt E L st) (hbad : st.bad = none) (hnum : st.numB = false) (h_key : Hid (st.isB wKey = false)) (h_val : Hid (st.isB wVal = true)) :
    Calls Tryd.prog 61 #[.pointer (some ⟨bt, 0, none⟩)] w (PrPost w (fun w st => TxAt w bt E L st) bt (.mk 3 0 [], st.next)) := by
  have H := Lib.hid ((TR.start h).same ((Below.refl _ _).alloc (Nat.le_refl _) (.cells #[.int .u8 0, .int .i64 0, .slice none 0 0] 24)))
  have HN := Lib.hid (Blk.new_at (w.alloc (.cells #[.int .u8 0, .int .i64 0, .slice none 0 0] 24)) #[.int .u8 0, .int .i64 0, .slice none 0 0] 24 (k := w.heap.size + 1) (by simp))
  obtain ⟨v, I, a, hb, hs, hI, hl, hd⟩ := H.out.tx.ex
  have b0 := hb.cell 0
  have b1 := hb.cell 1
  have b3 := hb.cell 3
  have hn4 := hL.1
  have h0I : (0 : Int) ≤ (I : Int) := by omega
  clear h
  have ha : a = -1 := by rcases hd with ⟨_, h⟩ | ⟨b', h, _⟩; exact h; rw [hbad] at h; cases h
  subst ha
  have hneg : decide ((0 : Int) ≤ -1) = false := by decide
  have hway : (¬ I < L.length) ∨ ∃ (tk : Int) (b off cap : Nat), I < L.length ∧ (tk == 2) = false ∧ v = .slice (some ⟨b, off, none⟩) L.length cap ∧ L.length ≤ cap ∧ cap ≤ maxLen ∧ ((w.alloc (.cells #[.int .u8 0, .int .i64 0, .slice none 0 0] 24)).alloc (.cells #[.int .u8 0, .int .i64 0, .slice none 0 0] 24)).cell? ⟨b, off + I * 4, none⟩ = some (.int .u8 tk) := by
    by_cases hlt : I < L.length
    · refine .inr ?_
      have hnum2 := hnum
      obtain ⟨l, bad⟩ := st
      dsimp only at hl
      subst hl
      rw [numB_drop, dif_pos hlt, decide_eq_false_iff_not] at hnum2
      obtain ⟨b, off, cap, rfl, _, d0, d1, d2, d3⟩ := hs.tok I hlt
      have hc1 : L.length ≤ cap ∧ cap ≤ maxLen := by
        obtain ⟨_, a', cap', hv, h2, h3, _⟩ := id hs
        simp only [Value.slice.injEq] at hv
        omega
      exact ⟨_, b, off, cap, hlt, by simpa using hnum2, rfl, hc1.1, hc1.2, d0⟩
    · exact .inl hlt
  obtain ⟨_, a9, c9, hv9, _⟩ := id hs
  subst hv9
  clear hb hs hl hd
  rcases hway with hlt | ⟨tk, b, off, cap, hlt, hk2, hv, hcap, hmx, d0⟩
  · have hg : decide (I < L.length) = false := by rw [decide_eq_false_iff_not]; omega
    go_enter Tryd.func61, Tryd.ntmps61
    go_upto_region 2 with fail
    generalize World.alloc (World.alloc w _) _ = W0 at *
    go_wp2_with fail
    go_quiet (fail)
    have hq0 : Below W0.heap.size W0 (W0.drewN nq) := below_drewN (Below.refl _ _) _
    replace H := Lib.hid (H.out.same hq0)
    replace HN := Lib.hid (HN.out.below hq0 HN.out.lt)
    clear b0 b1 b3 hq0
    generalize W0.drewN nq = W1 at *
    go_wp2_with fail
    have HWD := Lib.hid (Blk.new W1 #[.string { data := #[107, 101, 121] }, .string { data := #[118, 97, 108] }, .string { data := #[97, 99, 99] }] 9)
    have HLW : Hid (w.heap.size < W1.heap.size) := H.out.size
    have hal : Below W1.heap.size W1 (W1.alloc (.cells #[.string { data := #[107, 101, 121] }, .string { data := #[118, 97, 108] }, .string { data := #[97, 99, 99] }] 9)) := (Below.refl _ _).alloc (Nat.le_refl _) _
    have HT1 : Hid (T1 w (W1.alloc (.cells #[.string { data := #[107, 101, 121] }, .string { data := #[118, 97, 108] }, .string { data := #[97, 99, 99] }] 9)) bt W1.heap.size E L st) := ⟨H.out.same hal, HN.out.below hal HN.out.lt, HWD.out, HLW.out⟩
    clear H HN HWD hal
    generalize hwb : W1.heap.size = wb at *
    generalize W1.alloc _ = W2 at *
    clear hwb HLW
    go_loopw [5] (fun i wr => ∃ j : Nat, j ≤ 1 ∧ i = .int .i64 j ∧ T1 w wr bt wb E L st) (fun i _ => 4 - (intOf i).toNat)
    case atStart => exact ⟨0, by omega, rfl, HT1.out⟩
    case round =>
      obtain ⟨j, hj, rfl, ht1⟩ := hrel
      replace HT1 := Lib.hid ht1
      have k0 := ht1.wd.cell 0
      have k1 := ht1.wd.cell 1
      have k2 := ht1.wd.cell 2
      clear ht1
      rcases (by omega : j = 0 ∨ j = 1) with rfl | rfl
      · go_wp2_with fail
        refine (tis_l hL s_key h_key.out _ HT1.out.tr.tx).mono ?_
        rintro e wq ⟨rfl, hbq⟩
        replace HT1 := Lib.hid (HT1.out.same hbq)
        clear hbq k0 k1 k2
        go_wp2_with fail
        go_roundw
        case rel => exact ⟨1, by omega, by go_num, HT1.out⟩
        case measure => simp [intOf]
      · go_wp2_with fail
        refine (tis_l hL s_val h_val.out _ HT1.out.tr.tx).mono ?_
        rintro e wq ⟨rfl, hbq⟩
        replace HT1 := Lib.hid (HT1.out.same hbq)
        clear hbq k0 k1 k2
        obtain ⟨v, I, a, hb, hs, hI, hl, hd⟩ := HT1.out.tr.tx.ex
        have hlt := isB_some hl h_val.out
        have b1 := hb.cell 1
        have f1 := hb.free 1
        have hn4 := hL.1
        have TX := Lib.hid (TxAt.bump hb hs hlt hl hd)
        have HF := Lib.hid ((Fr.refl (fun k => k = bt) wq).setCell (p := ⟨bt, 1, none⟩) (.inl rfl) (.int .i64 ((I : Int) + 1)))
        clear hb hs hl hd
        go_upto_region 13 with fail
        have H := Lib.hid (HT1.out.tr.call HF.out TX.out)
        generalize wq.setCell _ _ = wz at *
        clear b1 f1 TX HF hlt hI HT1
        have z0 := H.out.res.cell 0
        have z1 := H.out.res.cell 1
        have z2 := H.out.res.cell 2
        have q0 := H.out.res.free 0
        have q1 := H.out.res.free 1
        have q2 := H.out.res.free 2
        have hsz := H.out.size
        go_wp2_with fail
        obtain ⟨p1, p2⟩ := tPost_pass (x := .mk 3 0 []) (sv := .slice none 0 0) H.out (.nil none 0 (Nat.zero_le _))
        refine bodyPost_ret (v := .agg #[_, _, _]) (results_cell_row rfl _ _ w.heap.size 24 _ (0, 0) _ rfl p2 Tryd.underlying24 rfl ?_) rfl p1
        as_aux_lemma => kernel_rfl
  · have hg : decide (I < L.length) = true := by rw [decide_eq_true_eq]; exact hlt
    have hlI : (I : Int) < (L.length : Int) := by omega
    simp only [Value.slice.injEq, true_and] at hv
    obtain ⟨rfl, rfl⟩ := hv
    unfold maxLen at hmx
    go_enter Tryd.func61, Tryd.ntmps61
    go_upto_region 2 with fail
    generalize World.alloc (World.alloc w _) _ = W0 at *
    go_wp2_with fail
    go_quiet (fail)
    have hq0 : Below W0.heap.size W0 (W0.drewN nq) := below_drewN (Below.refl _ _) _
    replace H := Lib.hid (H.out.same hq0)
    replace HN := Lib.hid (HN.out.below hq0 HN.out.lt)
    clear b0 b1 b3 hq0
    clear d0
    generalize W0.drewN nq = W1 at *
    go_wp2_with fail
    have HWD := Lib.hid (Blk.new W1 #[.string { data := #[107, 101, 121] }, .string { data := #[118, 97, 108] }, .string { data := #[97, 99, 99] }] 9)
    have HLW : Hid (w.heap.size < W1.heap.size) := H.out.size
    have hal : Below W1.heap.size W1 (W1.alloc (.cells #[.string { data := #[107, 101, 121] }, .string { data := #[118, 97, 108] }, .string { data := #[97, 99, 99] }] 9)) := (Below.refl _ _).alloc (Nat.le_refl _) _
    have HT1 : Hid (T1 w (W1.alloc (.cells #[.string { data := #[107, 101, 121] }, .string { data := #[118, 97, 108] }, .string { data := #[97, 99, 99] }] 9)) bt W1.heap.size E L st) := ⟨H.out.same hal, HN.out.below hal HN.out.lt, HWD.out, HLW.out⟩
    clear H HN HWD hal
    generalize hwb : W1.heap.size = wb at *
    generalize W1.alloc _ = W2 at *
    clear hwb HLW
    go_loopw [5] (fun i wr => ∃ j : Nat, j ≤ 1 ∧ i = .int .i64 j ∧ T1 w wr bt wb E L st) (fun i _ => 4 - (intOf i).toNat)
    case atStart => exact ⟨0, by omega, rfl, HT1.out⟩
    case round =>
      obtain ⟨j, hj, rfl, ht1⟩ := hrel
      replace HT1 := Lib.hid ht1
      have k0 := ht1.wd.cell 0
      have k1 := ht1.wd.cell 1
      have k2 := ht1.wd.cell 2
      clear ht1
      rcases (by omega : j = 0 ∨ j = 1) with rfl | rfl
      · go_wp2_with fail
        refine (tis_l hL s_key h_key.out _ HT1.out.tr.tx).mono ?_
        rintro e wq ⟨rfl, hbq⟩
        replace HT1 := Lib.hid (HT1.out.same hbq)
        clear hbq k0 k1 k2
        go_wp2_with fail
        go_roundw
        case rel => exact ⟨1, by omega, by go_num, HT1.out⟩
        case measure => simp [intOf]
      · go_wp2_with fail
        refine (tis_l hL s_val h_val.out _ HT1.out.tr.tx).mono ?_
        rintro e wq ⟨rfl, hbq⟩
        replace HT1 := Lib.hid (HT1.out.same hbq)
        clear hbq k0 k1 k2
        obtain ⟨v, I, a, hb, hs, hI, hl, hd⟩ := HT1.out.tr.tx.ex
        have hlt := isB_some hl h_val.out
        have b1 := hb.cell 1
        have f1 := hb.free 1
        have hn4 := hL.1
        have TX := Lib.hid (TxAt.bump hb hs hlt hl hd)
        have HF := Lib.hid ((Fr.refl (fun k => k = bt) wq).setCell (p := ⟨bt, 1, none⟩) (.inl rfl) (.int .i64 ((I : Int) + 1)))
        clear hb hs hl hd
        go_upto_region 13 with fail
        have H := Lib.hid (HT1.out.tr.call HF.out TX.out)
        generalize wq.setCell _ _ = wz at *
        clear b1 f1 TX HF hlt hI HT1
        have z0 := H.out.res.cell 0
        have z1 := H.out.res.cell 1
        have z2 := H.out.res.cell 2
        have q0 := H.out.res.free 0
        have q1 := H.out.res.free 1
        have q2 := H.out.res.free 2
        have hsz := H.out.size
        go_wp2_with fail
        obtain ⟨p1, p2⟩ := tPost_pass (x := .mk 3 0 []) (sv := .slice none 0 0) H.out (.nil none 0 (Nat.zero_le _))
        refine bodyPost_ret (v := .agg #[_, _, _]) (results_cell_row rfl _ _ w.heap.size 24 _ (0, 0) _ rfl p2 Tryd.underlying24 rfl ?_) rfl p1
        as_aux_lemma => kernel_rfl

set_option maxRecDepth 100000 in
set_option maxHeartbeats 2000000 in
theorem tone_acc (bt : Nat) (E : Int) (hE : 0 ≤ E) (L : List Tok) (hL : TkOk L) (st : PSt) (w : World) (h : TxAt w bt E L st) (hbad : st.bad = none) (hnum : st.numB = false) (h_key : Hid (st.isB wKey = false)) (h_val : Hid (st.isB wVal = false)) (h_acc : Hid (st.isB wAcc = true)) :
    Calls Tryd.prog 61 #[.pointer (some ⟨bt, 0, none⟩)] w (PrPost w (fun w st => TxAt w bt E L st) bt (.mk 4 0 [], st.next)) := by
  have H := Lib.hid ((TR.start h).same ((Below.refl _ _).alloc (Nat.le_refl _) (.cells #[.int .u8 0, .int .i64 0, .slice none 0 0] 24)))
  have HN := Lib.hid (Blk.new_at (w.alloc (.cells #[.int .u8 0, .int .i64 0, .slice none 0 0] 24)) #[.int .u8 0, .int .i64 0, .slice none 0 0] 24 (k := w.heap.size + 1) (by simp))
  obtain ⟨v, I, a, hb, hs, hI, hl, hd⟩ := H.out.tx.ex
  have b0 := hb.cell 0
  have b1 := hb.cell 1
  have b3 := hb.cell 3
  have hn4 := hL.1
  have h0I : (0 : Int) ≤ (I : Int) := by omega
  clear h
  have ha : a = -1 := by rcases hd with ⟨_, h⟩ | ⟨b', h, _⟩; exact h; rw [hbad] at h; cases h
  subst ha
  have hneg : decide ((0 : Int) ≤ -1) = false := by decide
  have hway : (¬ I < L.length) ∨ ∃ (tk : Int) (b off cap : Nat), I < L.length ∧ (tk == 2) = false ∧ v = .slice (some ⟨b, off, none⟩) L.length cap ∧ L.length ≤ cap ∧ cap ≤ maxLen ∧ ((w.alloc (.cells #[.int .u8 0, .int .i64 0, .slice none 0 0] 24)).alloc (.cells #[.int .u8 0, .int .i64 0, .slice none 0 0] 24)).cell? ⟨b, off + I * 4, none⟩ = some (.int .u8 tk) := by
    by_cases hlt : I < L.length
    · refine .inr ?_
      have hnum2 := hnum
      obtain ⟨l, bad⟩ := st
      dsimp only at hl
      subst hl
      rw [numB_drop, dif_pos hlt, decide_eq_false_iff_not] at hnum2
      obtain ⟨b, off, cap, rfl, _, d0, d1, d2, d3⟩ := hs.tok I hlt
      have hc1 : L.length ≤ cap ∧ cap ≤ maxLen := by
        obtain ⟨_, a', cap', hv, h2, h3, _⟩ := id hs
        simp only [Value.slice.injEq] at hv
        omega
      exact ⟨_, b, off, cap, hlt, by simpa using hnum2, rfl, hc1.1, hc1.2, d0⟩
    · exact .inl hlt
  obtain ⟨_, a9, c9, hv9, _⟩ := id hs
  subst hv9
  clear hb hs hl hd
  rcases hway with hlt | ⟨tk, b, off, cap, hlt, hk2, hv, hcap, hmx, d0⟩
  · have hg : decide (I < L.length) = false := by rw [decide_eq_false_iff_not]; omega
    go_enter Tryd.func61, Tryd.ntmps61
    go_upto_region 2 with fail
    generalize World.alloc (World.alloc w _) _ = W0 at *
    go_wp2_with fail
    go_quiet (fail)
    have hq0 : Below W0.heap.size W0 (W0.drewN nq) := below_drewN (Below.refl _ _) _
    replace H := Lib.hid (H.out.same hq0)
    replace HN := Lib.hid (HN.out.below hq0 HN.out.lt)
    clear b0 b1 b3 hq0
    generalize W0.drewN nq = W1 at *
    go_wp2_with fail
    have HWD := Lib.hid (Blk.new W1 #[.string { data := #[107, 101, 121] }, .string { data := #[118, 97, 108] }, .string { data := #[97, 99, 99] }] 9)
    have HLW : Hid (w.heap.size < W1.heap.size) := H.out.size
    have hal : Below W1.heap.size W1 (W1.alloc (.cells #[.string { data := #[107, 101, 121] }, .string { data := #[118, 97, 108] }, .string { data := #[97, 99, 99] }] 9)) := (Below.refl _ _).alloc (Nat.le_refl _) _
    have HT1 : Hid (T1 w (W1.alloc (.cells #[.string { data := #[107, 101, 121] }, .string { data := #[118, 97, 108] }, .string { data := #[97, 99, 99] }] 9)) bt W1.heap.size E L st) := ⟨H.out.same hal, HN.out.below hal HN.out.lt, HWD.out, HLW.out⟩
    clear H HN HWD hal
    generalize hwb : W1.heap.size = wb at *
    generalize W1.alloc _ = W2 at *
    clear hwb HLW
    go_loopw [5] (fun i wr => ∃ j : Nat, j ≤ 2 ∧ i = .int .i64 j ∧ T1 w wr bt wb E L st) (fun i _ => 4 - (intOf i).toNat)
    case atStart => exact ⟨0, by omega, rfl, HT1.out⟩
    case round =>
      obtain ⟨j, hj, rfl, ht1⟩ := hrel
      replace HT1 := Lib.hid ht1
      have k0 := ht1.wd.cell 0
      have k1 := ht1.wd.cell 1
      have k2 := ht1.wd.cell 2
      clear ht1
      rcases (by omega : j = 0 ∨ j = 1 ∨ j = 2) with rfl | rfl | rfl
      · go_wp2_with fail
        refine (tis_l hL s_key h_key.out _ HT1.out.tr.tx).mono ?_
        rintro e wq ⟨rfl, hbq⟩
        replace HT1 := Lib.hid (HT1.out.same hbq)
        clear hbq k0 k1 k2
        go_wp2_with fail
        go_roundw
        case rel => exact ⟨1, by omega, by go_num, HT1.out⟩
        case measure => simp [intOf]
      · go_wp2_with fail
        refine (tis_l hL s_val h_val.out _ HT1.out.tr.tx).mono ?_
        rintro e wq ⟨rfl, hbq⟩
        replace HT1 := Lib.hid (HT1.out.same hbq)
        clear hbq k0 k1 k2
        go_wp2_with fail
        go_roundw
        case rel => exact ⟨2, by omega, by go_num, HT1.out⟩
        case measure => simp [intOf]
      · go_wp2_with fail
        refine (tis_l hL s_acc h_acc.out _ HT1.out.tr.tx).mono ?_
        rintro e wq ⟨rfl, hbq⟩
        replace HT1 := Lib.hid (HT1.out.same hbq)
        clear hbq k0 k1 k2
        obtain ⟨v, I, a, hb, hs, hI, hl, hd⟩ := HT1.out.tr.tx.ex
        have hlt := isB_some hl h_acc.out
        have b1 := hb.cell 1
        have f1 := hb.free 1
        have hn4 := hL.1
        have TX := Lib.hid (TxAt.bump hb hs hlt hl hd)
        have HF := Lib.hid ((Fr.refl (fun k => k = bt) wq).setCell (p := ⟨bt, 1, none⟩) (.inl rfl) (.int .i64 ((I : Int) + 1)))
        clear hb hs hl hd
        go_upto_region 13 with fail
        have H := Lib.hid (HT1.out.tr.call HF.out TX.out)
        generalize wq.setCell _ _ = wz at *
        clear b1 f1 TX HF hlt hI HT1
        have z0 := H.out.res.cell 0
        have z1 := H.out.res.cell 1
        have z2 := H.out.res.cell 2
        have q0 := H.out.res.free 0
        have q1 := H.out.res.free 1
        have q2 := H.out.res.free 2
        have hsz := H.out.size
        go_wp2_with fail
        obtain ⟨p1, p2⟩ := tPost_pass (x := .mk 4 0 []) (sv := .slice none 0 0) H.out (.nil none 0 (Nat.zero_le _))
        refine bodyPost_ret (v := .agg #[_, _, _]) (results_cell_row rfl _ _ w.heap.size 24 _ (0, 0) _ rfl p2 Tryd.underlying24 rfl ?_) rfl p1
        as_aux_lemma => kernel_rfl
  · have hg : decide (I < L.length) = true := by rw [decide_eq_true_eq]; exact hlt
    have hlI : (I : Int) < (L.length : Int) := by omega
    simp only [Value.slice.injEq, true_and] at hv
    obtain ⟨rfl, rfl⟩ := hv
    unfold maxLen at hmx
    go_enter Tryd.func61, Tryd.ntmps61
    go_upto_region 2 with fail
    generalize World.alloc (World.alloc w _) _ = W0 at *
    go_wp2_with fail
    go_quiet (fail)
    have hq0 : Below W0.heap.size W0 (W0.drewN nq) := below_drewN (Below.refl _ _) _
    replace H := Lib.hid (H.out.same hq0)
    replace HN := Lib.hid (HN.out.below hq0 HN.out.lt)
    clear b0 b1 b3 hq0
    clear d0
    generalize W0.drewN nq = W1 at *
    go_wp2_with fail
    have HWD := Lib.hid (Blk.new W1 #[.string { data := #[107, 101, 121] }, .string { data := #[118, 97, 108] }, .string { data := #[97, 99, 99] }] 9)
    have HLW : Hid (w.heap.size < W1.heap.size) := H.out.size
    have hal : Below W1.heap.size W1 (W1.alloc (.cells #[.string { data := #[107, 101, 121] }, .string { data := #[118, 97, 108] }, .string { data := #[97, 99, 99] }] 9)) := (Below.refl _ _).alloc (Nat.le_refl _) _
    have HT1 : Hid (T1 w (W1.alloc (.cells #[.string { data := #[107, 101, 121] }, .string { data := #[118, 97, 108] }, .string { data := #[97, 99, 99] }] 9)) bt W1.heap.size E L st) := ⟨H.out.same hal, HN.out.below hal HN.out.lt, HWD.out, HLW.out⟩
    clear H HN HWD hal
    generalize hwb : W1.heap.size = wb at *
    generalize W1.alloc _ = W2 at *
    clear hwb HLW
    go_loopw [5] (fun i wr => ∃ j : Nat, j ≤ 2 ∧ i = .int .i64 j ∧ T1 w wr bt wb E L st) (fun i _ => 4 - (intOf i).toNat)
    case atStart => exact ⟨0, by omega, rfl, HT1.out⟩
    case round =>
      obtain ⟨j, hj, rfl, ht1⟩ := hrel
      replace HT1 := Lib.hid ht1
      have k0 := ht1.wd.cell 0
      have k1 := ht1.wd.cell 1
      have k2 := ht1.wd.cell 2
      clear ht1
      rcases (by omega : j = 0 ∨ j = 1 ∨ j = 2) with rfl | rfl | rfl
      · go_wp2_with fail
        refine (tis_l hL s_key h_key.out _ HT1.out.tr.tx).mono ?_
        rintro e wq ⟨rfl, hbq⟩
        replace HT1 := Lib.hid (HT1.out.same hbq)
        clear hbq k0 k1 k2
        go_wp2_with fail
        go_roundw
        case rel => exact ⟨1, by omega, by go_num, HT1.out⟩
        case measure => simp [intOf]
      · go_wp2_with fail
        refine (tis_l hL s_val h_val.out _ HT1.out.tr.tx).mono ?_
        rintro e wq ⟨rfl, hbq⟩
        replace HT1 := Lib.hid (HT1.out.same hbq)
        clear hbq k0 k1 k2
        go_wp2_with fail
        go_roundw
        case rel => exact ⟨2, by omega, by go_num, HT1.out⟩
        case measure => simp [intOf]
      · go_wp2_with fail
        refine (tis_l hL s_acc h_acc.out _ HT1.out.tr.tx).mono ?_
        rintro e wq ⟨rfl, hbq⟩
        replace HT1 := Lib.hid (HT1.out.same hbq)
        clear hbq k0 k1 k2
        obtain ⟨v, I, a, hb, hs, hI, hl, hd⟩ := HT1.out.tr.tx.ex
        have hlt := isB_some hl h_acc.out
        have b1 := hb.cell 1
        have f1 := hb.free 1
        have hn4 := hL.1
        have TX := Lib.hid (TxAt.bump hb hs hlt hl hd)
        have HF := Lib.hid ((Fr.refl (fun k => k = bt) wq).setCell (p := ⟨bt, 1, none⟩) (.inl rfl) (.int .i64 ((I : Int) + 1)))
        clear hb hs hl hd
        go_upto_region 13 with fail
        have H := Lib.hid (HT1.out.tr.call HF.out TX.out)
        generalize wq.setCell _ _ = wz at *
        clear b1 f1 TX HF hlt hI HT1
        have z0 := H.out.res.cell 0
        have z1 := H.out.res.cell 1
        have z2 := H.out.res.cell 2
        have q0 := H.out.res.free 0
        have q1 := H.out.res.free 1
        have q2 := H.out.res.free 2
        have hsz := H.out.size
        go_wp2_with fail
        obtain ⟨p1, p2⟩ := tPost_pass (x := .mk 4 0 []) (sv := .slice none 0 0) H.out (.nil none 0 (Nat.zero_le _))
        refine bodyPost_ret (v := .agg #[_, _, _]) (results_cell_row rfl _ _ w.heap.size 24 _ (0, 0) _ rfl p2 Tryd.underlying24 rfl ?_) rfl p1
        as_aux_lemma => kernel_rfl


end Go.Proofs.YtlkkigpjahlloaaDoor
