/-
  Walks: ref12.ints, ref12.Same, job.Stateful.
-/
import Derived.Test.YtfieoehchghiiaaJ6
namespace Go.Proofs.Ytfieoehchghiiaa
open Go.RowKit
set_option linter.unusedVariables false

set_option maxHeartbeats 400000 in
theorem ints_c (l1 l2 : List Int) (n1 n2 : Nat) (v1 v2 : Value) (B : Nat) (w : World) (h1 : Sl w B 1 v1 n1 (l1.map (Value.int .i64))) (h2 : Sl w B 1 v2 n2 (l2.map (Value.int .i64))) (hn1 : l1.length = n1) (hn2 : l2.length = n2) :
    Calls Try.prog 63 #[v1, v2] w fun e w' => e = .returned (.bool (intsB l1 l2)) ∧ ∃ n, w' = w.drewN n := by
  by_cases hl : n1 = n2
  · obtain rfl : n1 = n2 := hl
    obtain ⟨_, a1, cap1, rfl, hc1, hm1, _⟩ := id h1
    obtain ⟨_, a2, cap2, rfl, hc2, hm2, _⟩ := id h2
    have H1 := Lib.hid h1
    have H2 := Lib.hid h2
    have HN1 := Lib.hid hn1
    have HN2 := Lib.hid hn2
    have hnm : n1 ≤ 9223372036854775807 := by unfold maxLen at hm1; omega
    clear h1 h2 hn1 hn2
    rename_i hx1 hx2 hx3 hx4
    clear hx1 hx2 hx3 hx4
    go_enter Try.func63, Try.ntmps63
    go_wp2
    go_loopw [5] (fun i wr => ∃ k m : Nat, i = .int .i64 k ∧ k ≤ n1 ∧ wr = w.drewN m ∧ intsB (l1.drop k) (l2.drop k) = intsB l1 l2) (fun i _ => n1 - (intOf i).toNat)
    case atStart => exact ⟨0, 0, rfl, by omega, rfl, rfl⟩
    case round =>
      obtain ⟨k, m, rfl, hk, rfl, hr⟩ := hrel
      by_cases hlt : k < n1
      · obtain ⟨b1, o1, c1, e1, _, g1, p0⟩ := H1.out.int k hlt
        obtain ⟨b2, o2, c2, e2, _, g2, q0⟩ := H2.out.int k hlt
        simp only [Value.slice.injEq, true_and] at e1 e2
        obtain ⟨rfl, rfl⟩ := e1
        obtain ⟨rfl, rfl⟩ := e2
        rw [List.drop_eq_getElem_cons g1, List.drop_eq_getElem_cons g2] at hr
        generalize l1[k] = x at *
        generalize l2[k] = y at *
        simp only [intsB] at hr
        have HR := Lib.hid hr
        clear hr
        by_cases hxy : x = y
        · have HXY : Hid ((x == y) = true) := by simpa [Hid] using hxy
          have hq : (x != y) = false := by simpa using hxy
          clear hxy
          go_wp2
          go_quiet (fail)
          go_wp2
          go_roundw
          case rel => exact ⟨k + 1, m + nq, by go_num, by omega, rfl, by rw [← HR.out, HXY.out, Bool.true_and]⟩
          case measure => simp [intOf]; omega
        · have HXY : Hid ((x == y) = false) := by simpa [Hid] using hxy
          have hq : (x != y) = true := by simpa using hxy
          clear hxy
          go_wp2
          go_quiet (fail)
          go_wp2
          go_ret
          exact ⟨ret_bool (by rw [← HR.out, HXY.out]; rfl), _, World.drewN_drewN _ _ _⟩
      · have e1 : l1.drop k = [] := List.drop_of_length_le (by have := HN1.out; omega)
        have e2 : l2.drop k = [] := List.drop_of_length_le (by have := HN2.out; omega)
        rw [e1, e2] at hr
        have HR := Lib.hid hr
        clear hr e1 e2
        go_wp2
        go_ret
        exact ⟨ret_bool (by rw [← HR.out]; rfl), _, rfl⟩
  · obtain ⟨_, a1, cap1, rfl, hc1, hm1, _⟩ := h1
    obtain ⟨_, a2, cap2, rfl, hc2, hm2, _⟩ := h2
    rename_i hx1 hx2 hx3 hx4
    clear hx1 hx2 hx3 hx4
    have hne : ((n1 : Int) != (n2 : Int)) = true := by rw [bne_iff_ne]; omega
    have HE := Lib.hid (intsB_len l1 l2 (by omega))
    clear hn1 hn2
    go_enter Try.func63, Try.ntmps63
    go_wp2
    go_ret
    exact ⟨ret_bool HE.out.symm, 0, rfl⟩

set_option maxHeartbeats 2000000 in
theorem rJSame_c (jx jy : Jb) (v u : Value) (B : Nat) (w : World) (hv : JbAt w B v jx) (hu : JbAt w B u jy) (hB : B ≤ w.heap.size) :
    Calls Try.prog 22 #[v, u] w fun e w' => e = .returned (.bool (jx.sameB jy)) ∧ Below w.heap.size w w' := by
  obtain ⟨sv, rfl, hs⟩ := hv
  obtain ⟨tv, rfl, ht⟩ := hu
  obtain ⟨a, cap, rfl, hcap, hmx⟩ := hs.slice
  obtain ⟨a', cap', rfl, hcap', hmx'⟩ := ht.slice
  have HS := Lib.hid hs
  have HT := Lib.hid ht
  have HE : Hid (jx.sameB jy = ((jx.par == jy.par) && Nds.sameB jx.nodes jy.nodes)) := rfl
  generalize jx.sameB jy = res at *
  generalize jx.par = p at *
  generalize jy.par = p' at *
  generalize jx.nodes = l at *
  generalize jy.nodes = m at *
  have hW := ((Below.refl w.heap.size w).alloc (Nat.le_refl _) (.cells #[.int .i64 p, .slice a l.length cap] 24)).alloc (by simp) (.cells #[.int .i64 p', .slice a' m.length cap'] 24)
  clear hs ht
  by_cases hp : p = p'
  · by_cases hlen : l.length = m.length
    · have q1 : (p != p') = false := by simpa using hp
      have HE2 : Hid (res = Nds.sameB l m) := by show _ = _; rw [HE.out, hp]; simp
      obtain ⟨n, hn⟩ : ∃ n, l.length = n := ⟨_, rfl⟩
      have hn' : m.length = n := by omega
      have HN := Lib.hid hn
      have HN' := Lib.hid hn'
      have hnm : n ≤ 9223372036854775807 := by unfold maxLen at hmx; omega
      rw [hn, hn'] at hW
      have hb1 := (Blk.new w #[.int .i64 p, .slice a n cap] 24).alloc (.cells #[.int .i64 p', .slice a' n cap'] 24)
      have hb2 := Blk.new_at (w.alloc (.cells #[.int .i64 p, .slice a n cap] 24)) #[.int .i64 p', .slice a' n cap'] 24 (k := w.heap.size + 1) (by simp)
      rw [hn, hn']
      clear hn hn' hlen hp HE
      go_enter Try.func22, Try.ntmps22
      go_wp2_with fail
      generalize World.alloc (World.alloc w _) _ = W at *
      have hlo2 := hb2.lt
      go_loopw [5] (fun q wr => ∃ j : Nat, q = .int .i64 j ∧ j ≤ n ∧ Below W.heap.size W wr ∧ Nds.sameB (l.drop j) (m.drop j) = Nds.sameB l m) (fun q _ => n - (intOf q).toNat)
      case atStart => exact ⟨0, rfl, Nat.zero_le _, Below.refl _ _, rfl⟩
      case round =>
        obtain ⟨j, rfl, hj, hBr, hr⟩ := hrel
        have hbr1 := hb1.below hBr hb1.lt
        have hbr2 := hb2.below hBr hb2.lt
        have p2 := hbr1.cell 1
        have q2 := hbr2.cell 1
        have hlr1 := hbr1.lt
        have hlr2 := hbr2.lt
        have hBw := hW.trans (hBr.mono hW.size)
        by_cases hlt : j < n
        · have hj1 : j < l.length := by have := HN.out; omega
          have hj2 : j < m.length := by have := HN'.out; omega
          obtain ⟨b, off, cp, e1, hb, hu, iv, sv, c0, c1, c2, c3, c4, c5, c6, hin⟩ := ((HS.out.mono hB).keep hBw).at_ j hj1
          obtain ⟨b', off', cp', e2, hb', hu', iv', sv', d0, d1, d2, d3, d4, d5, d6, hin'⟩ := ((HT.out.mono hB).keep hBw).at_ j hj2
          rw [HN.out] at e1
          rw [HN'.out] at e2
          simp only [Value.slice.injEq, true_and] at e1 e2
          obtain ⟨rfl, rfl⟩ := e1
          obtain ⟨rfl, rfl⟩ := e2
          obtain ⟨a2, cap2, rfl, _, _⟩ := hin.2.slice
          obtain ⟨a3, cap3, rfl, _, _⟩ := hin'.2.slice
          obtain ⟨_, ai, capi, rfl, _, _, _⟩ := id hin.1
          obtain ⟨_, bi, capj, rfl, _, _, _⟩ := id hin'.1
          rw [List.drop_eq_getElem_cons hj1, List.drop_eq_getElem_cons hj2] at hr
          simp only [Nds.sameB] at hr
          have hbw := Nat.lt_of_lt_of_le hb hBw.size
          have hbw' := Nat.lt_of_lt_of_le hb' hBw.size
          generalize l[j] = x at *
          generalize m[j] = y at *
          have HX := Lib.hid (hin.mono hBw.size)
          have HY := Lib.hid (hin'.mono hBw.size)
          have HR := Lib.hid hr
          rename_i hx1 hx2 hx3 hx4 hx5 hx6 hx7 hx8 hx9 hx10
          clear hr hin hin' hu hu' hx1 hx2 hx3 hx4 hx5 hx6 hx7 hx8 hx9 hx10
          have hBn := ((Below.refl wr.heap.size wr).alloc (Nat.le_refl _) (.cells #[.string x.uid, .int .u8 x.kind, .slice ai x.ins.length capi, .int .u8 x.x.op, .int .i64 x.x.n, .slice a2 x.x.args.length cap2, .int .i64 x.n] 37)).alloc (by simp) (.cells #[.string y.uid, .int .u8 y.kind, .slice bi y.ins.length capj, .int .u8 y.x.op, .int .i64 y.x.n, .slice a3 y.x.args.length cap3, .int .i64 y.n] 37)
          have hwz : ((wr.alloc (.cells #[.string x.uid, .int .u8 x.kind, .slice ai x.ins.length capi, .int .u8 x.x.op, .int .i64 x.x.n, .slice a2 x.x.args.length cap2, .int .i64 x.n] 37)).alloc (.cells #[.string y.uid, .int .u8 y.kind, .slice bi y.ins.length capj, .int .u8 y.x.op, .int .i64 y.x.n, .slice a3 y.x.args.length cap3, .int .i64 y.n] 37)).heap.size = wr.heap.size + 2 := by simp
          have hNX := (Blk.new wr #[.string x.uid, .int .u8 x.kind, .slice ai x.ins.length capi, .int .u8 x.x.op, .int .i64 x.x.n, .slice a2 x.x.args.length cap2, .int .i64 x.n] 37).alloc (.cells #[.string y.uid, .int .u8 y.kind, .slice bi y.ins.length capj, .int .u8 y.x.op, .int .i64 y.x.n, .slice a3 y.x.args.length cap3, .int .i64 y.n] 37)
          have hNY := Blk.new_at (wr.alloc (.cells #[.string x.uid, .int .u8 x.kind, .slice ai x.ins.length capi, .int .u8 x.x.op, .int .i64 x.x.n, .slice a2 x.x.args.length cap2, .int .i64 x.n] 37)) #[.string y.uid, .int .u8 y.kind, .slice bi y.ins.length capj, .int .u8 y.x.op, .int .i64 y.x.n, .slice a3 y.x.args.length cap3, .int .i64 y.n] 37 (k := wr.heap.size + 1) (by simp)
          have hbi := bytes_inj x.uid y.uid
          have HCS := Lib.hid (Nd.sameB_cases x y)
          rcases HCS.out with ⟨h1, h2, h3, h4, hrr⟩ | ⟨hrr, hc⟩
          · clear HCS
            have q1 : (x.uid.toList == y.uid.toList) = true := by simpa using hbi.2 h1
            have q1' : (x.uid.toList != y.uid.toList) = false := by simpa using hbi.2 h1
            have q3 : (x.kind != y.kind) = false := by simpa using h2
            have q4 : (x.n != y.n) = false := by simpa using h3
            have H4 := Lib.hid h4
            have HRR := Lib.hid hrr
            clear h1 h2 h3 h4 hrr hbi
            cases hs : x.x.sameB y.x
            all_goals
              have HS := Lib.hid hs
              clear hs
              go_upto_region 8 with fail
              generalize World.alloc (World.alloc wr _) _ = W2 at *
              have HWZ := Lib.hid hwz
              have hwz2 : wr.heap.size + 2 ≤ W2.heap.size := by omega
              have x0 := hNX.cell 0
              have x1 := hNX.cell 1
              have x2 := hNX.cell 2
              have x3 := hNX.cell 3
              have x4 := hNX.cell 4
              have x5 := hNX.cell 5
              have x6 := hNX.cell 6
              have y0 := hNY.cell 0
              have y1 := hNY.cell 1
              have y2 := hNY.cell 2
              have y3 := hNY.cell 3
              have y4 := hNY.cell 4
              have y5 := hNY.cell 5
              have y6 := hNY.cell 6
              clear hwz
              go_wp2_with (first
                | (go_at_call 63; refine (ints_c x.ins y.ins _ _ _ _ wr.heap.size _ (HX.out.1.below hBn) (HY.out.1.below hBn) rfl rfl).mono ?_; rintro e w3 ⟨rfl, nq, rfl⟩; rw [H4.out])
                | (go_at_call 64; refine (rSame_c x.x y.x _ _ wr.heap.size _ ⟨_, rfl, HX.out.2.keep (below_drewN hBn nq)⟩ ⟨_, rfl, HY.out.2.keep (below_drewN hBn nq)⟩ (by have := hBn.size; simp; omega)).mono ?_; rintro e w4 ⟨rfl, hb4⟩; rw [HS.out]))
            · go_ret
              exact ⟨ret_bool (by rw [HE2.out, ← HR.out, HRR.out, HS.out]; rfl), hBw.trans (((below_drewN hBn nq).trans (hb4.mono (by simp; omega))).mono hBw.size)⟩
            · go_roundw
              case rel => exact ⟨j + 1, by go_num, by omega, hBr.trans (((below_drewN hBn nq).trans (hb4.mono (by simp; omega))).mono hBr.size), by rw [← HR.out, HRR.out, HS.out, Bool.true_and]⟩
              case measure => simp [intOf]; omega
          · have HRR := Lib.hid hrr
            clear hrr HCS
            rcases hc with h1 | ⟨h1, h2⟩ | ⟨h1, h2, h3⟩ | ⟨h1, h2, h3, h4⟩
            · skip
              have q1 : (x.uid.toList == y.uid.toList) = false := by simpa using fun h => h1 (hbi.1 h)
              have q1' : (x.uid.toList != y.uid.toList) = true := by simpa using fun h => h1 (hbi.1 h)
              clear h1 hbi hNX hNY hwz
              go_wp2_with fail
              go_ret
              exact ⟨ret_bool (by rw [HE2.out, ← HR.out, HRR.out]; rfl), hBw.trans (hBn.mono hBw.size)⟩
            · skip
              have q1 : (x.uid.toList == y.uid.toList) = true := by simpa using hbi.2 h1
              have q1' : (x.uid.toList != y.uid.toList) = false := by simpa using hbi.2 h1
              have q3 : (x.kind != y.kind) = true := by simpa using h2
              clear h1 h2 hbi hNX hNY hwz
              go_wp2_with fail
              go_ret
              exact ⟨ret_bool (by rw [HE2.out, ← HR.out, HRR.out]; rfl), hBw.trans (hBn.mono hBw.size)⟩
            · skip
              have q1 : (x.uid.toList == y.uid.toList) = true := by simpa using hbi.2 h1
              have q1' : (x.uid.toList != y.uid.toList) = false := by simpa using hbi.2 h1
              have q3 : (x.kind != y.kind) = false := by simpa using h2
              have q4 : (x.n != y.n) = true := by simpa using h3
              clear h1 h2 h3 hbi hNX hNY hwz
              go_wp2_with fail
              go_ret
              exact ⟨ret_bool (by rw [HE2.out, ← HR.out, HRR.out]; rfl), hBw.trans (hBn.mono hBw.size)⟩
            · skip
              have q1 : (x.uid.toList == y.uid.toList) = true := by simpa using hbi.2 h1
              have q1' : (x.uid.toList != y.uid.toList) = false := by simpa using hbi.2 h1
              have q3 : (x.kind != y.kind) = false := by simpa using h2
              have q4 : (x.n != y.n) = false := by simpa using h3
              have H4 := Lib.hid h4
              clear h1 h2 h3 h4 hbi hNX hNY hwz
              go_wp2_with (go_at_call 63; refine (ints_c x.ins y.ins _ _ _ _ wr.heap.size _ (HX.out.1.below hBn) (HY.out.1.below hBn) rfl rfl).mono ?_; rintro e w3 ⟨rfl, nq, rfl⟩; rw [H4.out])
              go_ret
              exact ⟨ret_bool (by rw [HE2.out, ← HR.out, HRR.out]; rfl), hBw.trans ((below_drewN hBn nq).mono hBw.size)⟩
        · rw [List.drop_of_length_le (by have := HN.out; omega), List.drop_of_length_le (by have := HN'.out; omega)] at hr
          have HR := Lib.hid hr
          clear hr
          go_wp2
          go_ret
          exact ⟨ret_bool (by rw [HE2.out, ← HR.out]; rfl), hBw⟩
    · have q1 : (p != p') = false := by simpa using hp
      have q2 : ((l.length : Int) != (m.length : Int)) = true := by rw [bne_iff_ne]; omega
      have HE2 : Hid (res = false) := by show _ = _; rw [HE.out, Nds.sameB_len l m hlen, Bool.and_false]
      clear hp hlen HE
      go_enter Try.func22, Try.ntmps22
      go_wp2
      go_ret
      exact ⟨ret_bool HE2.out.symm, hW⟩
  · have q1 : (p != p') = true := by simpa using hp
    have HE2 : Hid (res = false) := by
      show _ = _
      rw [HE.out, show (p == p') = false by simpa using hp]; rfl
    clear hp HE
    go_enter Try.func22, Try.ntmps22
    go_wp2
    go_ret
    exact ⟨ret_bool HE2.out.symm, hW⟩

end Go.Proofs.Ytfieoehchghiiaa
