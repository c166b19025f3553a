/-
  Walks: the reference's must, one.
-/
import Derived.Test.YtlkkigpjahlloaaDoorG3
namespace Go.Proofs.YtlkkigpjahlloaaDoor
open Go.RowKit
set_option linter.unusedVariables false
attribute [local go_sem ↓] Go.wp_at_zero Go.wp_at_succ

set_option maxHeartbeats 1000000 in
theorem t_must (bt : Nat) (E : Int) (hE : 0 ≤ E) (L : List Tok) (hL : TkOk L) (st : PSt) (s : ByteArray) (l : List UInt8) (hs : s.toList = l) (w : World) (h : TxAt w bt E L st) :
    Calls Tryd.prog 71 #[.pointer (some ⟨bt, 0, none⟩), .string s] w fun e w' => e = .returned (.tuple #[]) ∧ TxAt w' bt E L (st.must E l) ∧ Fr (fun k => k = bt) w w' := by
  have H := Lib.hid h
  have HL := Lib.hid hL
  clear h
  unfold PSt.must
  cases hb : st.isB l
  · have HB := Lib.hid hb
    clear hb
    go_enter Tryd.func71, Tryd.ntmps71
    go_wp2_with fail
    refine (tis_l HL.out hs HB.out _ H.out).mono ?_
    rintro e w1 ⟨rfl, hb1⟩
    replace H := Lib.hid (H.out.keep hb1)
    have HF := Lib.hid (Fr.of_new (S := fun k => k = bt) hb1)
    clear hb1
    obtain ⟨v, I, a, hb, hsl, hI, hl, hd⟩ := H.out.ex
    have b3 := hb.cell 3
    rcases hd with ⟨hd, rfl⟩ | ⟨b, hd, rfl, hb0⟩
    · have hneg : decide ((-1 : Int) < 0) = true := by decide
      have hneg2 : (-1 : Int) < 0 := by decide
      have hh := here_pos hE HL.out hl
      have HW := Lib.hid (fun (W : World) (hbl : Blk W bt 64 #[v, .int .i64 (I : Int), .int .i64 E, .int .i64 (-1)]) (hs2 : Sl W bt 4 v L.length (toksCells L)) => TxAt.wrong hbl hs2 hI hl hd hh)
      have HBK := Lib.hid hb
      have HSL := Lib.hid hsl
      clear hb hsl hI hl hd hh
      go_wp2_with fail
      refine (at_c bt E L HL.out st _ H.out).mono ?_
      rintro e w2 ⟨rfl, hb2⟩
      have hbk := HBK.out.below hb2 HBK.out.lt
      have c3 := hbk.cell 3
      have f3 := hbk.free 3
      have HT := Lib.hid (HW.out w2 hbk (HSL.out.below (hb2.mono (Nat.le_of_lt HBK.out.lt))))
      have HF2 := Lib.hid ((HF.out.trans (Fr.of_new hb2)).setCell (p := ⟨bt, 3, none⟩) (.inl rfl) (.int .i64 (st.here E)))
      clear hbk b3
      go_wp2_with fail
      go_end0
      exact ⟨rfl, HT.out, HF2.out⟩
    · have hneg : ¬ a < 0 := by omega
      have hst : st.fails E = st := by
        obtain ⟨l', bad⟩ := st
        dsimp only at hd
        subst hd
        rfl
      have HST := Lib.hid hst
      clear hst hd hb hsl hl
      go_wp2_with fail
      go_end0
      refine ⟨rfl, ?_, HF.out⟩
      show TxAt _ bt E L (st.fails E)
      rw [HST.out]
      exact H.out
  · have HB := Lib.hid hb
    clear hb
    go_enter Tryd.func71, Tryd.ntmps71
    go_wp2_with fail
    refine (tis_l HL.out hs HB.out _ H.out).mono ?_
    rintro e w1 ⟨rfl, hb1⟩
    replace H := Lib.hid (H.out.keep hb1)
    have HF := Lib.hid (Fr.of_new (S := fun k => k = bt) hb1)
    clear hb1
    obtain ⟨v, I, a, hb, hsl, hI, hl, hd⟩ := H.out.ex
    have hlt := isB_some hl HB.out
    have hn4 := hL.1
    have b1 := hb.cell 1
    have f1 := hb.free 1
    have HT := Lib.hid (TxAt.bump hb hsl hlt hl hd)
    have HF2 := Lib.hid (HF.out.setCell (p := ⟨bt, 1, none⟩) (.inl rfl) (.int .i64 ((I : Int) + 1)))
    clear hb hsl hl hd
    go_wp2_with fail
    refine bodyPost_ret (results_none rfl _ _ _) rfl ?_
    exact ⟨rfl, HT.out, HF2.out⟩


end Go.Proofs.YtlkkigpjahlloaaDoor
