/-
  The walk of LexBlanks.
-/
import Derived.Test.YtdjeaklekhjbcaaDoorX3
import Derived.Test.YtdjeaklekhjbcaaDoorX5
import Derived.Lib.AppendIntMem
namespace Go.Proofs.YtdjeaklekhjbcaaDoor
open Go.RowKit Num
set_option linter.unusedVariables false

namespace Num
/-- The table stays as it is wherever what lies below B does. -/
def TB (B : Nat) (w : World) : Prop := ∀ w', Below B w w' → Pow10 w'
theorem TB.below {B : Nat} {w w' : World} (h : TB B w) (hb : Below B w w') : TB B w' := fun w'' h2 => h w'' (hb.trans h2)
theorem TB.mono {B C : Nat} {w : World} (h : TB B w) (hC : B ≤ C) : TB C w := fun w' hb => h w' (hb.mono hC)
theorem TB.here {B : Nat} {w : World} (h : TB B w) : Pow10 w := h w (Below.refl _ _)
theorem TB.of {w : World} (h : Pow10 w) : TB w.heap.size w := Lib.tabBelow_of_tabIs h
end Num

set_option maxHeartbeats 1000000 in
theorem text_c (l : List Tok) (v : Value) (bl : ByteArray) (hbl : bl.size ≤ 2) (B : Nat) (w : World) (h : Sl w B 4 v l.length (toksCells l)) (hB : B ≤ w.heap.size) (htab : Pow10 w)
    (hf : ∀ u ∈ l, Full u) (hsz : ∀ u ∈ l, u.text.size ≤ 1600) (hl : l.length ≤ 400) :
    Calls Tryd.prog 7 #[v, .string bl] w fun e w' => e = .returned (.string (textOf bl l)) ∧ Below w.heap.size w w' := by
  have HT := Lib.hid (TB.of htab)
  have HS := Lib.hid h
  have HF := Lib.hid hf
  have HZ := Lib.hid hsz
  obtain ⟨n, hn⟩ : ∃ n, l.length = n := ⟨_, rfl⟩
  obtain ⟨_, a, cap, rfl, hc, hm, _⟩ := id h
  rw [hn] at HS hc ⊢
  have HN := Lib.hid hn
  clear h hf hsz htab hn
  go_enter Tryd.func7, Tryd.ntmps7
  have hbs : ∀ k, k ≤ n → (textOf bl (l.take k)).size ≤ 1602 * 400 := by
    intro k hk
    have := textOf_size bl hbl (l.take k) (fun u hu => HZ.out u (List.mem_of_mem_take hu)) (fun u hu => HF.out u (List.mem_of_mem_take hu))
    have h2 : (l.take k).length ≤ 400 := by rw [List.length_take]; omega
    omega
  have HBS := Lib.hid hbs
  clear hbs
  have hn4 : n ≤ 400 := by have := HN.out; omega
  go_wp2_with fail
  go_loopw [5, 10] (fun s q wr => ∃ k : Nat, q = .int .i64 k ∧ k ≤ n ∧ s = .string (textOf bl (l.take k)) ∧ Below w.heap.size w wr) (fun _ q _ => n - (intOf q).toNat)
  case atStart => exact ⟨0, rfl, Nat.zero_le _, rfl, Below.refl _ _⟩
  case round =>
    obtain ⟨k, rfl, hk, rfl, hBr⟩ := hrel
    by_cases hlt : k < n
    · obtain ⟨b, off, cp, e1, hkl, p0, p1, p2, p3⟩ := (HS.out.below (hBr.mono hB)).tok k hlt
      simp only [Value.slice.injEq, true_and] at e1
      obtain ⟨rfl, rfl⟩ := e1
      have hmem : l[k]'hkl ∈ l := List.getElem_mem hkl
      have hfull := HF.out _ hmem
      have htx := HZ.out _ hmem
      have HTK : Hid (textOf bl (l.take (k + 1)) = textOf bl (l.take k) ++ (tokB (l[k]'hkl) ++ bl)) := by
        show _ = _
        rw [List.take_succ_eq_append_getElem hkl, textOf_snoc]
      have hs1 := HBS.out k hk
      have hs2 := HBS.out (k + 1) hlt
      rw [HTK.out, ByteArray.size_append, ByteArray.size_append] at hs2
      generalize l[k] = t at *
      generalize textOf bl (l.take k) = sk at *
      cases hk2 : (t.kind == 2)
      · have htb : Hid (tokB t = t.text) := by
          show _ = _
          unfold tokB
          rw [if_neg (by simpa using hk2)]
        rw [htb.out] at hs2
        have h9 : (t.text ++ bl).size = t.text.size + bl.size := ByteArray.size_append
        go_wp2_with fail
        go_roundw
        case rel => exact ⟨k + 1, by go_num, by omega, by rw [HTK.out, htb.out], hBr.alloc hBr.size _⟩
        case measure => simp [intOf]; omega
      · obtain ⟨u, hu, hu9⟩ : ∃ u : Nat, t.n = (u : Int) ∧ u ≤ 9223372036854775807 := by
          cases hfull with
          | num n at_ h0 h9 => exact ⟨n.toNat, by dsimp only; omega, by omega⟩
          | _ => simp at hk2
        have htb : Hid (tokB t = decB u) := by
          show _ = _
          unfold tokB
          rw [if_pos (by simpa using hk2), hu]
          rfl
        rw [htb.out] at hs2
        rw [hu] at p2
        have h9 : (decB u ++ bl).size = (decB u).size + bl.size := ByteArray.size_append
        have hB2 := hBr.alloc hBr.size (.cells #[.int .u8 t.kind, .string t.text, .int .i64 (u : Int), .int .i64 t.at_] 29)
        go_wp2_with fail
        refine (fmt_c u hu9 _ (HT.out.below hB2).here).mono ?_
        rintro e w3 ⟨rfl, hb3⟩
        go_wp2_with fail
        go_roundw
        case rel => exact ⟨k + 1, by go_num, by omega, by rw [HTK.out, htb.out], hB2.trans (hb3.mono hB2.size)⟩
        case measure => simp [intOf]; omega
    · obtain rfl : k = n := by omega
      have htl : l.take k = l := List.take_of_length_le (by have := HN.out; omega)
      rw [htl]
      go_wp2_with fail
      go_ret
      exact ⟨rfl, hBr⟩

theorem Sl.in_ {w : World} {B size n b off cap : Nat} {cs : List Value} (h : Sl w B size (.slice (some ⟨b, off, none⟩) n cap) n cs) (hn : 0 < n) : b < B := by
  obtain ⟨_, a, cap', hv, _, _, h4⟩ := h
  simp only [Value.slice.injEq] at hv
  rcases h4 with h4 | ⟨b', off', e, hb, _⟩
  · omega
  · rw [← hv.1] at e
    simp only [Option.some.injEq, Addr.mk.injEq, and_true] at e
    rw [e.1]
    exact hb

/-- A box of a token that is written. -/
theorem tok_put (W : World) (a b c d : Value) : Blk (((((W.alloc (.cells #[.int .u8 0, .string { data := #[] }, .int .i64 0, .int .i64 0] 29)).setCell ⟨W.heap.size, 0, none⟩ a).setCell ⟨W.heap.size, 1, none⟩ b).setCell ⟨W.heap.size, 2, none⟩ c).setCell ⟨W.heap.size, 3, none⟩ d) W.heap.size 29 #[a, b, c, d] :=
  ((((Blk.new W #[.int .u8 0, .string { data := #[] }, .int .i64 0, .int .i64 0] 29).set 0 a).set 1 b).set 2 c).set 3 d
theorem tok_put_below (W : World) (a b c d : Value) : Below W.heap.size W (((((W.alloc (.cells #[.int .u8 0, .string { data := #[] }, .int .i64 0, .int .i64 0] 29)).setCell ⟨W.heap.size, 0, none⟩ a).setCell ⟨W.heap.size, 1, none⟩ b).setCell ⟨W.heap.size, 2, none⟩ c).setCell ⟨W.heap.size, 3, none⟩ d) :=
  (((((Below.refl _ W).alloc (Nat.le_refl _) _).setCell (Nat.le_refl _) _).setCell (Nat.le_refl _) _).setCell (Nat.le_refl _) _).setCell (Nat.le_refl _) _

set_option maxRecDepth 100000 in
set_option maxHeartbeats 2000000 in
theorem blanks_c (s : ByteArray) (tab : Bool) (hs0 : s.size ≤ 140737488351232) (w : World) (htab : Pow10 w) :
    Calls Tryd.prog 3 #[.string s, .bool tab] w fun e w' => e = .returned (.bool true) ∧ Below w.heap.size w w' := by
  have HT := Lib.hid (TB.of htab)
  have HWK := Lib.hid works_c
  clear htab
  obtain ⟨bl, hbl, hb2, HBL⟩ : ∃ bl : ByteArray, (if tab then tabS else blankS) = bl ∧ bl.size ≤ 2 ∧ Hid (bl = blankS ∨ bl = tabS) := by
    cases tab
    · exact ⟨blankS, rfl, by decide, .inl rfl⟩
    · exact ⟨tabS, rfl, by decide, .inr rfl⟩
  have HTK := Lib.hid (toks_blanks s bl HBL.out)
  have HFU := Lib.hid (toks_full s)
  have HSM := Lib.hid (toks_small s)
  have HTX := Lib.hid (fun (v : Value) (W : World) (h : Sl W W.heap.size 4 v (toks s).1.length (toksCells (toks s).1)) (htab : Pow10 W) => text_c (toks s).1 v bl hb2 W.heap.size W h (Nat.le_refl _) htab HFU.out.1 HSM.out.1 HSM.out.2)
  have HTS : Hid (∀ W : World, Calls Tryd.prog 5 #[.string s] W fun e w' => ∃ v, e = .returned (.tuple #[v, .int .i64 (toks s).2.1, .int .i64 (toks s).2.2]) ∧ Sl w' w'.heap.size 4 v (toks s).1.length (toksCells (toks s).1) ∧ Below W.heap.size W w') := fun W => Tokens_c s W
  generalize toks s = p at *
  obtain ⟨l, a1, e1⟩ := p
  have hl4 := HSM.out.2
  have hts := textOf_size bl hb2 l HSM.out.1 HFU.out.1
  dsimp only at *
  have htsl : (textOf bl l).size ≤ 640800 := by omega
  generalize textOf bl l = tx at *
  generalize hlen : l.length = n at *
  have HLEN := Lib.hid hlen
  clear hlen hts
  by_cases h50 : (5000 : Int) < (s.size : Int)
  · go_enter Tryd.func3, Tryd.ntmps3
    go_wp2_with fail
    refine (HTS.out _).mono ?_
    rintro e w1 ⟨v, rfl, hsl, hb1⟩
    go_wp2_with fail
    refine (HWK.out _).mono ?_
    rintro e w5 ⟨rfl, h5⟩
    go_wp2_with fail
    go_ret
    exact ⟨rfl, hb1.trans (h5.mono hb1.size)⟩
  · by_cases he : e1 = 0
    · subst he
      have HL2 : Hid ((400 < tx.size ∧ toks tx = ([], 0, 3)) ∨ (¬ 400 < tx.size ∧ ∃ m, toks tx = (m, 0, 0) ∧ Alike l m ∧ Rise l ∧ Rise m)) := HTK.out
      clear HTK
      have hcase := HL2.out
      cases tab
      all_goals
        go_enter Tryd.func3, Tryd.ntmps3
        go_wp2_with fail
        refine (HTS.out _).mono ?_
        rintro e w1 ⟨v, rfl, hsl, hb1⟩
        dsimp only at hsl ⊢
        have HSL := Lib.hid hsl
        obtain ⟨_, ad, cap, rfl, hcap, hmx, _⟩ := hsl
        have hbl1 : bl = _ := hbl.symm
        subst hbl1
        go_wp2_with fail
        refine (HTX.out _ _ HSL.out (HT.out.below hb1).here).mono ?_
        rintro e w2 ⟨rfl, hq2⟩
        have hb2 := hb1.trans (hq2.mono hb1.size)
        go_wp2_with fail
        refine (Tokens_c _ _).mono ?_
        rintro e w3 ⟨v2, rfl, hsl2, hq3⟩
        have hb3 := hb2.trans (hq3.mono hb2.size)
        rcases hcase with ⟨h4, ht⟩ | ⟨h4, m, ht, hA, hR1, hR2⟩
        · rw [ht] at hsl2 ⊢
          dsimp only at hsl2 ⊢
          have h4' : (400 : Int) < (tx.size : Int) := by omega
          have hee : ((3 : Int) == 3) = true := rfl
          obtain ⟨_, ad2, cap2, rfl, hcap2, hmx2, _⟩ := hsl2
          go_wp2_with fail
          refine (HWK.out _).mono ?_
          rintro e w5 ⟨rfl, h5⟩
          go_wp2_with fail
          go_ret
          exact ⟨rfl, hb3.trans (h5.mono hb3.size)⟩
        · rw [ht] at hsl2 ⊢
          dsimp only at hsl2 ⊢
          have h4' : ¬ (400 : Int) < (tx.size : Int) := by omega
          have hml : m.length = n := hA.len.trans HLEN.out
          rw [hml] at hsl2
          have HSL2 := Lib.hid hsl2
          obtain ⟨_, ad2, cap2, rfl, hcap2, hmx2, _⟩ := hsl2
          have HA := Lib.hid hA
          have HR1 := Lib.hid hR1
          have HR2 := Lib.hid hR2
          have HML := Lib.hid hml
          clear hA hR1 hR2 hml ht
          have hw3 := (HSL.out.below hq2).below (hq3.mono hq2.size)
          have HW3 := Lib.hid (hw3.mono (Nat.le_trans hq2.size hq3.size))
          clear hw3
          have hn9 : n ≤ 400 := hl4
          go_wp2_with fail
          go_loopw [57] (fun q wr => ∃ j : Nat, q = .int .i64 j ∧ j ≤ n ∧ Below w3.heap.size w3 wr) (fun q _ => n - (intOf q).toNat)
          case atStart => exact ⟨0, rfl, Nat.zero_le _, Below.refl _ _⟩
          case round =>
            obtain ⟨j, rfl, hj, hBr⟩ := hrel
            by_cases hlt : j < n
            · obtain ⟨b1, o1, c1, q1, hl1, p0, p1, p2, p3⟩ := (HW3.out.below hBr).tok j hlt
              obtain ⟨b2, o2, c2, q2, hl2, r0, r1, r2, r3⟩ := (HSL2.out.below hBr).tok j hlt
              simp only [Value.slice.injEq, true_and] at q1 q2
              obtain ⟨rfl, rfl⟩ := q1
              obtain ⟨rfl, rfl⟩ := q2
              obtain ⟨g1, g2, g3⟩ := HA.out.at_ j hl1 hl2
              rw [g1] at r0
              rw [g2] at r1
              rw [g3] at r2
              have hne := run_neq_tok (l[j]'hl1).kind (l[j]'hl1).text (l[j]'hl1).n (l[j]'hl1).at_ (l[j]'hl1).kind (l[j]'hl1).text (l[j]'hl1).n (l[j]'hl1).at_
              rw [(tokEq_iff _ _).2 rfl] at hne
              clear g1 g2 g3
              have hb1l := HW3.out.in_ (by omega)
              have hb2l := HSL2.out.in_ (by omega)
              clear HSM HFU HTX HTS HL2 HBL
              cases j with
              | zero =>
                simp only [Nat.zero_mul, Nat.add_zero] at p0 p1 p2 p3 r0 r1 r2 r3
                generalize l[0] = y at *
                generalize m[0] = z at *
                go_wp2_with fail
                go_quiet (fail)
                have hBW := below_drewN hBr nq
                have r0 : (wr.drewN nq).cell? ⟨b2, o2, none⟩ = _ := r0
                have r1 : (wr.drewN nq).cell? ⟨b2, o2 + 1, none⟩ = _ := r1
                have r2 : (wr.drewN nq).cell? ⟨b2, o2 + 2, none⟩ = _ := r2
                have r3 : (wr.drewN nq).cell? ⟨b2, o2 + 3, none⟩ = _ := r3
                have p0 : (wr.drewN nq).cell? ⟨b1, o1, none⟩ = _ := p0
                have p1 : (wr.drewN nq).cell? ⟨b1, o1 + 1, none⟩ = _ := p1
                have p2 : (wr.drewN nq).cell? ⟨b1, o1 + 2, none⟩ = _ := p2
                have p3 : (wr.drewN nq).cell? ⟨b1, o1 + 3, none⟩ = _ := p3
                generalize wr.drewN nq = W at *
                have hx := Blk.new W #[.int .u8 0, .string { data := #[] }, .int .i64 0, .int .i64 0] 29
                have z0 := hx.free 0
                have z1 := hx.free 1
                have z2 := hx.free 2
                have z3 := hx.free 3
                have x0 := hx.cell 0
                have x1 := hx.cell 1
                have x2 := hx.cell 2
                have x3 := hx.cell 3
                go_upto_region 19 with fail
                have hX := Blk.new W #[.int .u8 y.kind, .string y.text, .int .i64 y.n, .int .i64 z.at_] 29
                have hbX := (Below.refl W.heap.size W).alloc (Nat.le_refl _) (.cells #[.int .u8 y.kind, .string y.text, .int .i64 y.n, .int .i64 z.at_] 29)
                clear z0 z1 z2 z3 x0 x1 x2 x3 hx r0 r1 r2 r3
                have hWz := hBW.size
                have p0 := (hbX.cell (p := ⟨b1, o1, none⟩) (by show b1 < _; omega)).trans p0
                have p1 := (hbX.cell (p := ⟨b1, o1 + 1, none⟩) (by show b1 < _; omega)).trans p1
                have p2 := (hbX.cell (p := ⟨b1, o1 + 2, none⟩) (by show b1 < _; omega)).trans p2
                have p3 := (hbX.cell (p := ⟨b1, o1 + 3, none⟩) (by show b1 < _; omega)).trans p3
                generalize W.alloc _ = X at *
                have z3 := hX.free 3
                have x3 := hX.cell 3
                go_upto_region 20 with fail
                have hY := hX.set 3 (.int .i64 y.at_)
                have hbY := hbX.setCell (p := ⟨W.heap.size, 3, none⟩) (Nat.le_refl _) (.int .i64 y.at_)
                have p0 := (hbY.cell (p := ⟨b1, o1, none⟩) (by show b1 < _; omega)).trans ((hbX.cell (p := ⟨b1, o1, none⟩) (by show b1 < _; omega)).symm.trans p0)
                have p1 := (hbY.cell (p := ⟨b1, o1 + 1, none⟩) (by show b1 < _; omega)).trans ((hbX.cell (p := ⟨b1, o1 + 1, none⟩) (by show b1 < _; omega)).symm.trans p1)
                have p2 := (hbY.cell (p := ⟨b1, o1 + 2, none⟩) (by show b1 < _; omega)).trans ((hbX.cell (p := ⟨b1, o1 + 2, none⟩) (by show b1 < _; omega)).symm.trans p2)
                have p3 := (hbY.cell (p := ⟨b1, o1 + 3, none⟩) (by show b1 < _; omega)).trans ((hbX.cell (p := ⟨b1, o1 + 3, none⟩) (by show b1 < _; omega)).symm.trans p3)
                clear z3 x3 hX hbX
                generalize World.setCell _ _ _ = Y at *
                have x0 := hY.cell 0
                have x1 := hY.cell 1
                have x2 := hY.cell 2
                have x3 := hY.cell 3
                go_quiet (fail)
                go_wp2_with fail
                go_roundw
                case rel => exact ⟨0 + 1, by go_num, by omega, below_drewN (hBW.trans (hbY.mono hWz)) _⟩
                case measure => simp [intOf]; omega
              | succ k =>
                obtain ⟨b3, o3, c3, q3, hl3, _, _, _, s3⟩ := (HW3.out.below hBr).tok k (by omega)
                obtain ⟨b4, o4, c4, q4, hl4', _, _, _, t3⟩ := (HSL2.out.below hBr).tok k (by omega)
                simp only [Value.slice.injEq, true_and, Option.some.injEq, Addr.mk.injEq, and_true] at q3 q4
                obtain ⟨⟨rfl, rfl⟩, rfl⟩ := q3
                obtain ⟨⟨rfl, rfl⟩, rfl⟩ := q4
                have hlt1 : decide ((l[k + 1]'hl1).at_ ≤ (l[k]'hl3).at_) = false := by
                  have := List.pairwise_iff_getElem.1 HR1.out k (k + 1) hl3 hl1 (by omega)
                  rw [decide_eq_false_iff_not]
                  omega
                have hlt2 : decide ((m[k + 1]'hl2).at_ ≤ (m[k]'hl4').at_) = false := by
                  have := List.pairwise_iff_getElem.1 HR2.out k (k + 1) hl4' hl2 (by omega)
                  rw [decide_eq_false_iff_not]
                  omega
                generalize (l[k]'hl3).at_ = la at *
                generalize (m[k]'hl4').at_ = ma at *
                generalize l[k + 1] = y at *
                generalize m[k + 1] = z at *
                go_wp2_with fail
                go_quiet (fail)
                have hBW := below_drewN hBr nq
                have r0 : (wr.drewN nq).cell? ⟨b2, o2 + (k + 1) * 4, none⟩ = _ := r0
                have r1 : (wr.drewN nq).cell? ⟨b2, o2 + (k + 1) * 4 + 1, none⟩ = _ := r1
                have r2 : (wr.drewN nq).cell? ⟨b2, o2 + (k + 1) * 4 + 2, none⟩ = _ := r2
                have r3 : (wr.drewN nq).cell? ⟨b2, o2 + (k + 1) * 4 + 3, none⟩ = _ := r3
                have p0 : (wr.drewN nq).cell? ⟨b1, o1 + (k + 1) * 4, none⟩ = _ := p0
                have p1 : (wr.drewN nq).cell? ⟨b1, o1 + (k + 1) * 4 + 1, none⟩ = _ := p1
                have p2 : (wr.drewN nq).cell? ⟨b1, o1 + (k + 1) * 4 + 2, none⟩ = _ := p2
                have p3 : (wr.drewN nq).cell? ⟨b1, o1 + (k + 1) * 4 + 3, none⟩ = _ := p3
                generalize wr.drewN nq = W at *
                have hx := Blk.new W #[.int .u8 0, .string { data := #[] }, .int .i64 0, .int .i64 0] 29
                have z0 := hx.free 0
                have z1 := hx.free 1
                have z2 := hx.free 2
                have z3 := hx.free 3
                have x0 := hx.cell 0
                have x1 := hx.cell 1
                have x2 := hx.cell 2
                have x3 := hx.cell 3
                go_upto_region 19 with fail
                have hX := Blk.new W #[.int .u8 y.kind, .string y.text, .int .i64 y.n, .int .i64 z.at_] 29
                have hbX := (Below.refl W.heap.size W).alloc (Nat.le_refl _) (.cells #[.int .u8 y.kind, .string y.text, .int .i64 y.n, .int .i64 z.at_] 29)
                clear z0 z1 z2 z3 x0 x1 x2 x3 hx r0 r1 r2 r3
                have hWz := hBW.size
                have p0 := (hbX.cell (p := ⟨b1, o1 + (k + 1) * 4, none⟩) (by show b1 < _; omega)).trans p0
                have p1 := (hbX.cell (p := ⟨b1, o1 + (k + 1) * 4 + 1, none⟩) (by show b1 < _; omega)).trans p1
                have p2 := (hbX.cell (p := ⟨b1, o1 + (k + 1) * 4 + 2, none⟩) (by show b1 < _; omega)).trans p2
                have p3 := (hbX.cell (p := ⟨b1, o1 + (k + 1) * 4 + 3, none⟩) (by show b1 < _; omega)).trans p3
                generalize W.alloc _ = X at *
                have z3 := hX.free 3
                have x3 := hX.cell 3
                go_upto_region 20 with fail
                have hY := hX.set 3 (.int .i64 y.at_)
                have hbY := hbX.setCell (p := ⟨W.heap.size, 3, none⟩) (Nat.le_refl _) (.int .i64 y.at_)
                have p0 := (hbY.cell (p := ⟨b1, o1 + (k + 1) * 4, none⟩) (by show b1 < _; omega)).trans ((hbX.cell (p := ⟨b1, o1 + (k + 1) * 4, none⟩) (by show b1 < _; omega)).symm.trans p0)
                have p1 := (hbY.cell (p := ⟨b1, o1 + (k + 1) * 4 + 1, none⟩) (by show b1 < _; omega)).trans ((hbX.cell (p := ⟨b1, o1 + (k + 1) * 4 + 1, none⟩) (by show b1 < _; omega)).symm.trans p1)
                have p2 := (hbY.cell (p := ⟨b1, o1 + (k + 1) * 4 + 2, none⟩) (by show b1 < _; omega)).trans ((hbX.cell (p := ⟨b1, o1 + (k + 1) * 4 + 2, none⟩) (by show b1 < _; omega)).symm.trans p2)
                have p3 := (hbY.cell (p := ⟨b1, o1 + (k + 1) * 4 + 3, none⟩) (by show b1 < _; omega)).trans ((hbX.cell (p := ⟨b1, o1 + (k + 1) * 4 + 3, none⟩) (by show b1 < _; omega)).symm.trans p3)
                clear z3 x3 hX hbX
                generalize World.setCell _ _ _ = Y at *
                have x0 := hY.cell 0
                have x1 := hY.cell 1
                have x2 := hY.cell 2
                have x3 := hY.cell 3
                go_quiet (fail)
                go_wp2_with fail
                go_roundw
                case rel => exact ⟨k + 1 + 1, by go_num, by omega, below_drewN (hBW.trans (hbY.mono hWz)) _⟩
                case measure => simp [intOf]; omega
            · obtain rfl : j = n := by omega
              have hb4 := hb3.trans (hBr.mono hb3.size)
              go_wp2_with fail
              refine (HWK.out _).mono ?_
              rintro e w5 ⟨rfl, h5⟩
              go_wp2_with fail
              go_ret
              exact ⟨rfl, hb4.trans (h5.mono hb4.size)⟩
    · have he' : (e1 != 0) = true := by simpa using he
      go_enter Tryd.func3, Tryd.ntmps3
      go_wp2_with fail
      refine (HTS.out _).mono ?_
      rintro e w1 ⟨v, rfl, hsl, hb1⟩
      go_wp2_with fail
      refine (HWK.out _).mono ?_
      rintro e w5 ⟨rfl, h5⟩
      go_wp2_with fail
      go_ret
      exact ⟨rfl, hb1.trans (h5.mono hb1.size)⟩

end Go.Proofs.YtdjeaklekhjbcaaDoor
