/-
  Walks: the reference's unary, one.
-/
import Derived.Test.YtlkkigpjahlloaaDoorG2
namespace Go.Proofs.YtlkkigpjahlloaaDoor
open Go.RowKit
set_option linter.unusedVariables false
attribute [local go_sem ↓] Go.wp_at_zero Go.wp_at_succ

set_option maxHeartbeats 1000000 in
theorem t_unary (bt : Nat) (E : Int) (L : List Tok) (hL : TkOk L) (st : PSt) (w : World) (h : TxAt w bt E L st)
    (h5 : Hid (∀ n, n < st.l.length → TrC 48 ptr bt E L (prF E 5) n)) (h6 : Hid (TrC 61 ptr bt E L (prF E 6) st.l.length)) :
    Calls Tryd.prog 48 #[.pointer (some ⟨bt, 0, none⟩)] w (PrPost w (fun w st => TxAt w bt E L st) bt (prUnary (prF E) st)) := by
  have H := Lib.hid (TR.start h)
  clear h
  cases hm : st.isB [45]
  · cases hn : st.isB [33]
    · have HE : Hid (prUnary (prF E) st = prF E 6 st) := by show _ = _; unfold prUnary; rw [hm, hn]; rfl
      have HM := Lib.hid hm
      have HN := Lib.hid hn
      clear hm hn
      go_enter Tryd.func48, Tryd.ntmps48
      go_wp2_with fail
      refine (tis_l hL s_minus HM.out _ H.out.tx).mono ?_
      rintro e w1 ⟨rfl, hb1⟩
      replace H := Lib.hid (H.out.same hb1)
      clear hb1
      go_wp2_with fail
      refine (tis_l hL s_not HN.out _ H.out.tx).mono ?_
      rintro e w2 ⟨rfl, hb2⟩
      replace H := Lib.hid (H.out.same hb2)
      clear hb2
      have hz := H.out.size
      go_wp2_with fail
      refine (h6.out st _ (Nat.le_refl _) H.out.tx).mono ?_
      rintro e w3 ⟨_, rfl, ha, hr, hf3⟩
      obtain ⟨a9, n9, c9, rfl⟩ := ha.slice
      replace H := Lib.hid (H.out.call hf3 hr)
      clear hr hf3
      have z0 := H.out.res.cell 0
      have z1 := H.out.res.cell 1
      have z2 := H.out.res.cell 2
      have q0 := H.out.res.free 0
      have q1 := H.out.res.free 1
      have q2 := H.out.res.free 2
      have hsz := H.out.size
      go_wp2_with fail
      obtain ⟨p1, p2⟩ := tPost_pass H.out (ha.mono fun b hb => ⟨by omega, hb.2⟩)
      rw [HE.out]
      refine bodyPost_ret (v := .agg #[_, _, _]) (results_cell_row rfl _ _ w.heap.size 24 _ (0, 0) _ rfl p2 Tryd.underlying24 rfl ?_) rfl p1
      as_aux_lemma => kernel_rfl
    · have HE : Hid (prUnary (prF E) st = (.mk 6 0 [(prF E 5 st.next).1], (prF E 5 st.next).2)) := by show _ = _; unfold prUnary; rw [hm, hn]; rfl
      have HM := Lib.hid hm
      have HN := Lib.hid hn
      have HL := Lib.hid (PSt.next_lt hn)
      clear hm hn
      go_enter Tryd.func48, Tryd.ntmps48
      go_wp2_with fail
      refine (tis_l hL s_minus HM.out _ H.out.tx).mono ?_
      rintro e w1 ⟨rfl, hb1⟩
      replace H := Lib.hid (H.out.same hb1)
      clear hb1
      go_wp2_with fail
      refine (tis_l hL s_not HN.out _ H.out.tx).mono ?_
      rintro e w2 ⟨rfl, hb2⟩
      replace H := Lib.hid (H.out.same hb2)
      clear hb2
      obtain ⟨v, I, a, hb, hs, hI, hl, hd⟩ := H.out.tx.ex
      have hlt := isB_some hl HN.out
      have b1 := hb.cell 1
      have f1 := hb.free 1
      have hn4 := hL.1
      have TX := Lib.hid (TxAt.bump hb hs hlt hl hd)
      have HF := Lib.hid ((Fr.refl (fun k => k = bt) w2).setCell (p := ⟨bt, 1, none⟩) (.inl rfl) (.int .i64 ((I : Int) + 1)))
      clear hb hs hl hd
      go_upto_region 6 with fail
      replace H := Lib.hid (H.out.call HF.out TX.out)
      generalize w2.setCell _ _ = v2 at *
      clear b1 f1 TX HF hlt hI
      have hz := H.out.size
      go_wp2_with fail
      refine (h5.out _ HL.out st.next _ (Nat.le_refl _) H.out.tx).mono ?_
      rintro e w3 ⟨_, rfl, ha, hr, hf3⟩
      obtain ⟨a9, n9, c9, rfl⟩ := ha.slice
      replace H := Lib.hid (H.out.call hf3 hr)
      clear hr hf3
      have z0 := H.out.res.cell 0
      have z1 := H.out.res.cell 1
      have z2 := H.out.res.cell 2
      have q0 := H.out.res.free 0
      have q1 := H.out.res.free 1
      have q2 := H.out.res.free 2
      have hsz := H.out.size
      go_wp2_with fail
      obtain ⟨p1, p2⟩ := tPost_new (op := 6) (l := [(prF E 5 st.next).1]) (n := 1) H.out (fun W P hb hP hk => ArgsIn.one hb hP (hk _ _ (ha.mono fun b hb => ⟨by omega, hb.2⟩)))
      rw [HE.out]
      refine bodyPost_ret (v := .agg #[_, _, _]) (results_cell_row rfl _ _ w.heap.size 24 _ (0, 0) _ rfl p2 Tryd.underlying24 rfl ?_) rfl p1
      as_aux_lemma => kernel_rfl
  · have HE : Hid (prUnary (prF E) st = (.mk 5 0 [(prF E 5 st.next).1], (prF E 5 st.next).2)) := by show _ = _; unfold prUnary; rw [hm]; rfl
    have HM := Lib.hid hm
    have HL := Lib.hid (PSt.next_lt hm)
    clear hm
    go_enter Tryd.func48, Tryd.ntmps48
    go_wp2_with fail
    refine (tis_l hL s_minus HM.out _ H.out.tx).mono ?_
    rintro e w1 ⟨rfl, hb1⟩
    replace H := Lib.hid (H.out.same hb1)
    clear hb1
    obtain ⟨v, I, a, hb, hs, hI, hl, hd⟩ := H.out.tx.ex
    have hlt := isB_some hl HM.out
    have b1 := hb.cell 1
    have f1 := hb.free 1
    have hn4 := hL.1
    have TX := Lib.hid (TxAt.bump hb hs hlt hl hd)
    have HF := Lib.hid ((Fr.refl (fun k => k = bt) w1).setCell (p := ⟨bt, 1, none⟩) (.inl rfl) (.int .i64 ((I : Int) + 1)))
    clear hb hs hl hd
    go_upto_region 3 with fail
    replace H := Lib.hid (H.out.call HF.out TX.out)
    generalize w1.setCell _ _ = v1 at *
    clear b1 f1 TX HF hlt hI
    have hz := H.out.size
    go_wp2_with fail
    refine (h5.out _ HL.out st.next _ (Nat.le_refl _) H.out.tx).mono ?_
    rintro e w3 ⟨_, rfl, ha, hr, hf3⟩
    obtain ⟨a9, n9, c9, rfl⟩ := ha.slice
    replace H := Lib.hid (H.out.call hf3 hr)
    clear hr hf3
    have z0 := H.out.res.cell 0
    have z1 := H.out.res.cell 1
    have z2 := H.out.res.cell 2
    have q0 := H.out.res.free 0
    have q1 := H.out.res.free 1
    have q2 := H.out.res.free 2
    have hsz := H.out.size
    go_wp2_with fail
    obtain ⟨p1, p2⟩ := tPost_new (op := 5) (l := [(prF E 5 st.next).1]) (n := 1) H.out (fun W P hb hP hk => ArgsIn.one hb hP (hk _ _ (ha.mono fun b hb => ⟨by omega, hb.2⟩)))
    rw [HE.out]
    refine bodyPost_ret (v := .agg #[_, _, _]) (results_cell_row rfl _ _ w.heap.size 24 _ (0, 0) _ rfl p2 Tryd.underlying24 rfl ?_) rfl p1
    as_aux_lemma => kernel_rfl

end Go.Proofs.YtlkkigpjahlloaaDoor
