/-
  Walk: ref12.May.
-/
import Derived.Test.YtjbchkgkapccnaaGreatDoorMD
namespace Go.Proofs.YtjbchkgkapccnaaGreatDoor
open Go.RowKit
set_option linter.unusedVariables false
set_option linter.unusedSimpArgs false

theorem own_pos {w : World} {base : Nat} {e : TypeId} {size n : Nat} {v : Value} {xs : List Value} (h : w.ownsRow base e size v n xs) (hn : 0 < n) : ∃ g cap, v = .slice (some ⟨g, 0, none⟩) n cap := by
  rcases h.2 with ⟨_, h0⟩ | ⟨g, cap, _, hv, _⟩
  · omega
  · exact ⟨g, cap, hv⟩
theorem beq_strD (s t : ByteArray) : (s.toList == t.toList) = decide (s = t) := by
  by_cases h : s = t
  · subst h; simp
  · rw [decide_eq_false h, beq_eq_false_iff_ne]
    intro e
    rw [ByteArray.toList_eq, ByteArray.toList_eq] at e
    exact h (ByteArray.ext (Array.ext' e))
/-- The rows of two loops of ref12.May. -/
structure R2Rel (l : List Nd) (w : World) (wr : World) (job : Array Value) (k : Nat) (us : List ByteArray) : Prop where
  le : k ≤ l.length
  below : Below w.heap.size w wr
  job : Blk wr w.heap.size 24 job
  ue : us = (l.take k).map Nd.uid
  tw : twiceB (fun x y => decide (x = y)) us = false
  st : st1 (l.drop k) k us = st1 l 0 []
structure R4Rel (jb : Jb) (l : List Nd) (w : World) (wr : World) (job : Array Value) (k : Nat) (f : Int) (ws : List Int) (s10 : Value) : Prop where
  le : k ≤ l.length
  below : Below w.heap.size w wr
  job : Blk wr w.heap.size 24 job
  f0 : 0 ≤ f
  f2 : f ≤ 2
  own : wr.ownsRow (w.heap.size + 1) 3 1 s10 k (ws.map (Value.int .i64))
  wk : ws.length = k
  wb : ∀ z ∈ ws, 0 ≤ z ∧ z ≤ 64
  st : st2 jb (l.drop k) k f ws = st2 jb l 0 0 []

set_option maxRecDepth 100000 in
set_option maxHeartbeats 8000000 in
theorem rMayJ_c (jb : Jb) (hok : jb.ok) (hus : ∀ d ∈ jb.nodes, d.uid.size ≤ 1000000) (hlen : jb.nodes.length ≤ 1000) (v : Value) (B : Nat) (w : World) (hv : JbAt w B v jb) (hB : B ≤ w.heap.size) :
    Calls Tryz.prog 25 #[v] w fun e w' => e = .returned (.tuple #[.int .i64 jb.may.1, .int .i64 jb.may.2]) ∧ Below w.heap.size w w' := by
  obtain ⟨j0, ki, kz0, kz1, kz2⟩ := info_parts info_intJ
  have HJ := Lib.hid hv
  obtain ⟨sv, rfl, hs⟩ := hv
  obtain ⟨a, cap, rfl, hcap, hmx⟩ := hs.slice
  have HS := Lib.hid hs
  have HM : Hid (jb.may = if jb.argB = true then (0, 2) else match st1 jb.nodes 0 [] with
    | some r => r
    | none => match st2 jb jb.nodes 0 0 [] with
      | some r => r
      | none => (0, 0)) := rfl
  have HOK := Lib.hid hok.2.2
  have HUS := Lib.hid hus
  have HPS := Lib.hid (parts_iff jb)
  have hcs := argB_cases jb
  have HRD : Hid (∀ (at_ : Int) (v : Value) (B : Nat) (w : World) (hv : JbAt w B v jb) (hB : B ≤ w.heap.size), Calls Tryz.prog 58 #[v, .int .i64 at_] w fun e w' => ∃ v', e = .returned v' ∧ Sl w' w'.heap.size 1 v' (jb.readers at_).length ((jb.readers at_).map (Value.int .i64)) ∧ Below w.heap.size w w') :=
    fun at_ v B w hv hB => rReaders_c jb at_ v B w hv hB hlen
  have HBC := Lib.hid (badB_cases jb)
  have HNM : Hid (st1 jb.nodes 0 [] = none → ∀ i (h : i < jb.nodes.length), nodeB (jb.nodes[i]'h) (i : Int) = true) := fun h' i h => by have := st1_node jb.nodes 0 [] h' i h; simpa using this
  have hrl : Hid (∀ at_, (jb.readers at_).length ≤ jb.nodes.length) := fun at_ => by
    unfold Jb.readers
    have : ∀ (l : List Nd) (k : Nat), (readersGo at_ l k).length ≤ l.length := by
      intro l
      induction l with
      | nil => simp [readersGo]
      | cons d l ih =>
        intro k
        simp only [readersGo]
        cases d.ins.any (fun y => at_ == y)
        · have := ih (k + 1); simp only [cond_false, List.length_cons]; omega
        · have := ih (k + 1); simp only [cond_true, List.length_cons]; omega
    exact this _ _
  have hNJ := Blk.new w #[.int .i64 jb.par, .slice a jb.nodes.length cap] 24
  have hW := (Below.refl w.heap.size w).alloc (Nat.le_refl _) (.cells #[.int .i64 jb.par, .slice a jb.nodes.length cap] 24)
  clear hs hok hus
  generalize hl : jb.nodes = l at *
  have HL := Lib.hid hl
  generalize jb.par = par at *
  generalize hmay : jb.may = mm at *
  generalize jb.parts = pts at *
  clear hl hmay
  go_enter Tryz.func25, Tryz.ntmps25
  go_wp2_with fail
  generalize World.alloc w _ = W at *
  have g1 := hNJ.cell 1
  go_wp2_with fail
  clear g1
  go_loopw [5, 6] (fun s q wr => ∃ k : Nat, q = .int .i64 (k : Int) ∧ s = .int .i64 ((partsSum (l.take k) : Nat) : Int) ∧ k ≤ l.length ∧ Below w.heap.size w wr ∧ Blk wr w.heap.size 24 #[.int .i64 par, .slice a l.length cap]) (fun _ q _ => l.length - (intOf q).toNat)
  case atStart => exact ⟨0, rfl, rfl, Nat.zero_le _, hW, hNJ⟩
  case round =>
    clear hW hNJ
    obtain ⟨k, rfl, rfl, hk, hBr, hJr⟩ := hrel
    have g1 := hJr.cell 1
    by_cases hlt : k < l.length
    · have hd1 : decide ((k : Int) < (l.length : Int)) = true := decide_eq_true (by omega)
      obtain ⟨b, off, cp, e1, hb, hu, iv, sv, c0, c1, c2, c3, c4, c5, c6, hin⟩ := ((HS.out.mono hB).keep hBr).at_ k hlt
      simp only [Value.slice.injEq, true_and] at e1
      obtain ⟨rfl, rfl⟩ := e1
      obtain ⟨a2, cap2, rfl, _, _⟩ := hin.2.slice
      have HX : Hid (ExAt wr w.heap.size (.agg #[.int .u8 (l[k]'hlt).x.op, .int .i64 (l[k]'hlt).x.n, .slice a2 (l[k]'hlt).x.args.length cap2]) (l[k]'hlt).x) := ⟨_, rfl, hin.2⟩
      have HPT := Lib.hid (partsSum_take l k hlt)
      have hps := partsSum_le (l.take k)
      rw [List.length_take] at hps
      generalize l[k] = y at *
      have HPC := Lib.hid (rParts_c y.x _ w.heap.size wr HX.out hBr.size)
      have hmt : min y.x.tot 1001 ≤ 1001 := Nat.min_le_right _ _
      generalize min y.x.tot 1001 = t at *
      generalize partsSum (l.take k) = ps at *
      rename_i hx1 hx2
      clear hin hx1 hx2 c0 c1 c2 c6 hu HX
      go_wp2_with (go_at_call 56; refine HPC.out.mono ?_; rintro e w3 ⟨rfl, hb3⟩)
      go_roundw
      case rel => exact ⟨k + 1, by go_num, by rw [HPT.out]; go_num, by omega, hBr.trans (hb3.mono hBr.size), hJr.below hb3 hJr.lt⟩
      case measure => simp [intOf]; omega
    · have hd1 : decide ((k : Int) < (l.length : Int)) = false := decide_eq_false (by omega)
      rw [List.take_of_length_le (by omega)]
      generalize partsSum l = ps at *
      have g0 := hJr.cell 0
      rcases hcs with ⟨hr, hc⟩ | ⟨hr, hc1, hc2, hc3, hc4, hc5⟩
      · have HM2 : Hid (mm = (0, 2)) := by show _ = _; rw [HM.out, if_pos hr]
        have hpp := HPS.out
        clear hr HM
        have hc' : (decide (par < 1) = true) ∨ (decide (par < 1) = false ∧ decide (4 < par) = true) ∨ (decide (par < 1) = false ∧ decide (4 < par) = false ∧ decide ((l.length : Int) < 2) = true) ∨ (decide (par < 1) = false ∧ decide (4 < par) = false ∧ decide ((l.length : Int) < 2) = false ∧ decide ((12 : Int) < (l.length : Int)) = true) ∨
            (decide (par < 1) = false ∧ decide (4 < par) = false ∧ decide ((l.length : Int) < 2) = false ∧ decide ((12 : Int) < (l.length : Int)) = false ∧ decide ((1000 : Int) < (ps : Int)) = true) := by
          simp only [decide_eq_true_eq, decide_eq_false_iff_not]
          omega
        clear hc hpp
        rcases hc' with h1 | ⟨h1, h2⟩ | ⟨h1, h2, h3⟩ | ⟨h1, h2, h3, h4⟩ | ⟨h1, h2, h3, h4, h5⟩
        all_goals
          go_wp2_with fail
          go_ret2
          exact ⟨by rw [HM2.out]; rfl, hBr⟩
      · have HM2 : Hid (mm = match st1 l 0 [] with
          | some r => r
          | none => match st2 jb l 0 0 [] with
            | some r => r
            | none => (0, 0)) := by show _ = _; rw [HM.out, if_neg (by rw [hr]; simp)]
        have hpp := HPS.out
        have h1 : decide (par < 1) = false := decide_eq_false (by omega)
        have h2 : decide (4 < par) = false := decide_eq_false (by omega)
        have h3 : decide ((l.length : Int) < 2) = false := decide_eq_false (by omega)
        have h4 : decide ((12 : Int) < (l.length : Int)) = false := decide_eq_false (by omega)
        have h5 : decide ((1000 : Int) < (ps : Int)) = false := decide_eq_false (by omega)
        clear hr HM hpp hc5
        go_wp2_with fail
        clear g0 g1 h1 h2 h3 h4 h5
        go_loopw [7] (fun q wr => ∃ (k : Nat) (us : List ByteArray), q = .int .i64 (k : Int) ∧ R2Rel l w wr #[.int .i64 par, .slice a l.length cap] k us) (fun q _ => l.length - (intOf q).toNat)
        case atStart => exact ⟨0, [], rfl, Nat.zero_le _, hBr, hJr, rfl, rfl, rfl⟩
        case round =>
          clear hBr hJr hlt hk hd1
          obtain ⟨k, us, rfl, hR⟩ := hrel
          have hk := hR.le
          have hBr := hR.below
          have hJr := hR.job
          have g1 := hJr.cell 1
          by_cases hlt : k < l.length
          · have hd1 : decide ((k : Int) < (l.length : Int)) = true := decide_eq_true (by omega)
            obtain ⟨b, off, cp, e1, hb, hu, iv, sv, c0, c1, c2, c3, c4, c5, c6, hin⟩ := ((HS.out.mono hB).keep hBr).at_ k hlt
            simp only [Value.slice.injEq, true_and] at e1
            obtain ⟨rfl, rfl⟩ := e1
            obtain ⟨a2, cap2, rfl, _, _⟩ := hin.2.slice
            obtain ⟨_, ai, capi, rfl, _, hcm, _⟩ := id hin.1
            have hst := hR.st
            rw [List.drop_eq_getElem_cons hlt] at hst
            simp only [st1] at hst
            have HMY := Lib.hid (rmay_c (l[k]'hlt) (HOK.out _ (List.getElem_mem hlt)) (HUS.out _ (List.getElem_mem hlt)) (k : Int) (.agg #[.string (l[k]'hlt).uid, .int .u8 (l[k]'hlt).kind, .slice ai (l[k]'hlt).ins.length capi, .int .u8 (l[k]'hlt).x.op, .int .i64 (l[k]'hlt).x.n, .slice a2 (l[k]'hlt).x.args.length cap2, .int .i64 (l[k]'hlt).n]) w.heap.size wr ⟨_, _, rfl, hin, hu⟩ hBr.size)
            have HTW : Hid (twiceB (fun x y => decide (x = y)) (us ++ [(l[k]'hlt).uid]) = us.any (fun y => decide ((l[k]'hlt).uid = y))) := by show _ = _; rw [twiceB_snoc, hR.tw, Bool.false_or]
            have HUN : Hid ((l.take (k + 1)).map Nd.uid = us ++ [(l[k]'hlt).uid]) := by show _ = _; rw [List.take_succ_eq_append_getElem hlt, List.map_append, ← hR.ue]; rfl
            have HUL : Hid (us = (l.take k).map Nd.uid) := hR.ue
            generalize hy : l[k] = y at *
            have HY := Lib.hid hy
            clear hy
            have HST := Lib.hid hst
            rename_i hx1 hx2 hx3
            clear hst hin hx1 hx2 hx3 hcm
            cases hnb : nodeB y (k : Int)
            · have HNB := Lib.hid hnb
              rw [hnb] at HMY
              clear hnb
              go_wp2_with (go_at_call 57; refine HMY.out.mono ?_; rintro e w3 ⟨rfl, hb3⟩)
              go_ret2
              refine ⟨?_, hBr.trans (hb3.mono hBr.size)⟩
              rw [HM2.out, ← HST.out, HNB.out]
              rfl
            · have HNB := Lib.hid hnb
              rw [hnb] at HMY
              clear hnb
              go_wp2_with (go_at_call 57; refine HMY.out.mono ?_; rintro e w3 ⟨rfl, hb3⟩)
              have hB3 := hBr.trans (hb3.mono hBr.size)
              have hJ3 := hJr.below hb3 hJr.lt
              have u0 : w3.cell? ⟨b, off + k * 7, none⟩ = some (.string y.uid) := (hb3.cell (p := ⟨b, off + k * 7, none⟩) (Nat.lt_of_lt_of_le hb hBr.size)).trans c0
              clear c0 c1 c2 c3 c4 c5 c6 g1 hBr hJr hb3 HMY hR
              go_loopw [8] (fun q wx => ∃ j m : Nat, q = .int .i64 (j : Int) ∧ j ≤ k ∧ wx = w3.drewN m ∧ (us.take j).any (fun v => decide (y.uid = v)) = false) (fun q _ => k - (intOf q).toNat)
              case atStart => exact ⟨0, 0, rfl, Nat.zero_le _, rfl, rfl⟩
              case round =>
                obtain ⟨j, m, rfl, hj, rfl, hje⟩ := hrel
                have hJm : Blk (w3.drewN m) w.heap.size 24 #[.int .i64 par, .slice (some ⟨b, off, none⟩) l.length cap] := hJ3
                have g1 := hJ3.cell 1
                by_cases hjk : j < k
                · have hd2 : decide ((j : Int) < (k : Int)) = true := decide_eq_true (by omega)
                  have hjl : j < l.length := by omega
                  obtain ⟨b', off', cp', e1, hb', hu', iv', sv', c0, hrest⟩ := ((HS.out.mono hB).keep hB3).at_ j hjl
                  clear hrest
                  simp only [Value.slice.injEq, true_and, Option.some.injEq, Addr.mk.injEq, and_true] at e1
                  obtain ⟨⟨rfl, rfl⟩, rfl⟩ := e1
                  have hjul : j < us.length := by rw [HUL.out, List.length_map, List.length_take]; omega
                  have huj : us[j]'hjul = (l[j]'hjl).uid := by
                    have h1 : ((l.take k).map Nd.uid)[j]? = some (l[j]'hjl).uid := by
                      rw [List.getElem?_map, List.getElem?_take, if_pos hjk, List.getElem?_eq_getElem hjl]; rfl
                    rw [← HUL.out, List.getElem?_eq_getElem hjul, Option.some.injEq] at h1
                    exact h1
                  have HJT : Hid (us.take (j + 1) = us.take j ++ [(l[j]'hjl).uid]) := by show _ = _; rw [List.take_succ_eq_append_getElem hjul, huj]
                  have HJI : Hid (y.uid = (l[j]'hjl).uid → us.any (fun v => decide (y.uid = v)) = true) := fun h => List.any_eq_true.2 ⟨us[j]'hjul, List.getElem_mem hjul, by rw [huj, h]; simp⟩
                  generalize (l[j]'hjl).uid = z at *
                  clear huj hjul
                  have hbs := beq_strD z y.uid
                  by_cases hzy : y.uid = z
                  · have hbt : (z.toList == y.uid.toList) = true := by rw [hbs]; exact decide_eq_true hzy.symm
                    have HAN := Lib.hid (HJI.out hzy)
                    clear hzy hbs
                    go_wp2_with fail
                    go_quiet (fail)
                    go_wp2_with fail
                    go_ret2
                    refine ⟨?_, below_drewN (below_drewN hB3 _) _⟩
                    rw [HM2.out, ← HST.out, HNB.out, HTW.out, HAN.out]
                    rfl
                  · have hbt : (z.toList == y.uid.toList) = false := by rw [hbs]; exact decide_eq_false (fun h => hzy h.symm)
                    have HZY := Lib.hid hzy
                    clear hzy hbs
                    go_wp2_with fail
                    go_quiet (fail)
                    go_wp2_with fail
                    go_roundw
                    case rel => exact ⟨j + 1, m + nq, by go_num, by omega, rfl, by rw [HJT.out, List.any_append, hje]; simp [HZY.out]⟩
                    case measure => simp [intOf]; omega
                · have hd2 : decide ((j : Int) < (k : Int)) = false := decide_eq_false (by omega)
                  have hun : us.take j = us := List.take_of_length_le (by rw [HUL.out, List.length_map, List.length_take]; omega)
                  rw [hun] at hje
                  have HJE := Lib.hid hje
                  clear hje hun
                  go_wp2_with fail
                  go_roundw
                  case rel => exact ⟨k + 1, us ++ [y.uid], by go_num, by omega, below_drewN hB3 _, hJm, HUN.out.symm, by rw [HTW.out]; exact HJE.out, by rw [← HST.out, HNB.out, HTW.out, HJE.out]; rfl⟩
                  case measure => simp [intOf]; omega
          · have hd1 : decide ((k : Int) < (l.length : Int)) = false := decide_eq_false (by omega)
            have hst := hR.st
            rw [List.drop_of_length_le (by omega)] at hst
            simp only [st1] at hst
            have HNB := Lib.hid (HNM.out hst.symm)
            have HM3 : Hid (mm = match st2 jb l 0 0 [] with
              | some r => r
              | none => (0, 0)) := by show _ = _; rw [HM2.out, ← hst]
            clear hst hR HM2 HNM g1
            go_wp2_with fail
            go_loopw [9, 10, 11] (fun s9 s10 q wr => ∃ (k : Nat) (f : Int) (ws : List Int), q = .int .i64 (k : Int) ∧ s9 = .int .i64 f ∧ R4Rel jb l w wr #[.int .i64 par, .slice a l.length cap] k f ws s10) (fun _ _ q _ => l.length - (intOf q).toNat)
            case atStart => exact ⟨0, 0, [], rfl, rfl, Nat.zero_le _, hBr, hJr, by omega, by omega, World.ownsRow_nil _ _ _ _, rfl, by simp, rfl⟩
            case round =>
              clear hBr hJr hlt hk hd1
              obtain ⟨k, f, ws, rfl, rfl, hR⟩ := hrel
              have hk := hR.le
              have hBr := hR.below
              have hJr := hR.job
              have g1 := hJr.cell 1
              have hbw : w.heap.size < wr.heap.size := hJr.lt
              by_cases hlt : k < l.length
              · have hd1 : decide ((k : Int) < (l.length : Int)) = true := decide_eq_true (by omega)
                obtain ⟨b, off, cp, e1, hb, hu, iv, sv, c0, c1, c2, c3, c4, c5, c6, hin⟩ := ((HS.out.mono hB).keep hBr).at_ k hlt
                simp only [Value.slice.injEq, true_and] at e1
                obtain ⟨rfl, rfl⟩ := e1
                obtain ⟨_, ai, capi, rfl, _, hcm, _⟩ := id hin.1
                have hst := hR.st
                rw [List.drop_eq_getElem_cons hlt] at hst
                simp only [st2] at hst
                have hnd := nodeB_in _ _ (HNB.out k hlt)
                generalize l[k] = y at *
                have HSL := Lib.hid hin.1
                have HST := Lib.hid hst
                have HND := Lib.hid hnd
                have hil : y.ins.length ≤ 3 := hnd.1
                have hkw : k ≤ 100 := by omega
                have HWB := Lib.hid hR.wb
                have HWK := Lib.hid hR.wk
                rename_i hx1 hx2 hx3
                clear hst hin hx1 hx2 hx3 hu hnd hcm c0 c3 c4 c5 c6
                go_wp2_with fail
                go_loopw [13, 14] (fun s13 q wx => ∃ (m : Nat) (acc : Int), q = .int .i64 (m : Int) ∧ s13 = .int .i64 acc ∧ m ≤ y.ins.length ∧ 0 ≤ acc ∧ acc ≤ 64 * m ∧ wx = wr ∧ acc + sumW ws (y.ins.drop m) = sumW ws y.ins) (fun _ q _ => y.ins.length - (intOf q).toNat)
                case atStart => exact ⟨0, 0, rfl, rfl, Nat.zero_le _, by omega, by omega, rfl, by simp⟩
                case round =>
                  obtain ⟨m, acc, rfl, rfl, hm, ha1, ha2, rfl, hsum⟩ := hrel
                  by_cases hlt2 : m < y.ins.length
                  · have hd2 : decide ((m : Int) < (y.ins.length : Int)) = true := decide_eq_true (by omega)
                    obtain ⟨bi, oi, ci, e2, hbi, g1', p0⟩ := HSL.out.int m hlt2
                    simp only [Value.slice.injEq, true_and] at e2
                    obtain ⟨rfl, rfl⟩ := e2
                    have hzb := HND.out.2.2.2 _ (List.getElem_mem g1')
                    rw [List.drop_eq_getElem_cons g1'] at hsum
                    simp only [sumW] at hsum
                    generalize y.ins[m] = z at *
                    obtain ⟨zn, rfl⟩ : ∃ zn : Nat, z = zn := ⟨z.toNat, by omega⟩
                    have hzk : zn < k := by omega
                    obtain ⟨q, hq1, hq2, hq3, hq4⟩ := sum_at HWK.out zn hzk HWB.out
                    rw [Int.toNat_natCast, hq1] at hsum
                    have HSUM := Lib.hid hsum
                    obtain ⟨g, capg, hv10⟩ := own_pos hR.own (by omega)
                    subst hv10
                    obtain ⟨og1, og2, og3⟩ := own_cells hR.own
                    have o1 : wr.cell? ⟨g, zn, none⟩ = some (.int .i64 q) := (og3 zn hzk).1.trans (by
                      have := hq4 0
                      rw [List.map_append, List.getElem?_append_left (by rw [List.length_map, HWK.out]; exact hzk)] at this
                      exact this)
                    have hacc : acc ≤ 1000 := by omega
                    have hzi : (0 : Int) ≤ (zn : Int) := by omega
                    have hzj : (zn : Int) < (k : Int) := by omega
                    clear hsum hq1 hq4 hzb og3
                    go_wp2_with fail
                    go_roundw
                    case rel => exact ⟨m + 1, acc + q, by go_num, rfl, by omega, by omega, by omega, trivial, by have := HSUM.out; omega⟩
                    case measure => simp [intOf]; omega
                  · have hd2 : decide ((m : Int) < (y.ins.length : Int)) = false := decide_eq_false (by omega)
                    rw [List.drop_of_length_le (by omega)] at hsum
                    simp only [sumW, Int.add_zero] at hsum
                    have hS : acc ≤ 1000 := by omega
                    have HSW := Lib.hid hsum
                    have HWY : Hid (wayN y ws = if y.kind = 1 then 1 else if y.kind = 4 then sumW ws y.ins * 4 else sumW ws y.ins) := rfl
                    have HFL : Hid (flatN y f = if y.kind = 4 then f + 1 else f) := rfl
                    have hf0 := hR.f0
                    have hf2 := hR.f2
                    have hown := hR.own
                    have hgn : ∀ q, u10.ownBlock = some q → w.heap.size + 1 ≤ q ∧ q < wr.heap.size := fun q hq => ⟨(hown.lt q hq).1, (hown.lt q hq).2⟩
                    have HWBN : Hid (∀ z, 0 ≤ z → z ≤ 64 → ∀ q ∈ ws ++ [z], 0 ≤ q ∧ q ≤ 64) := fun z h1 h2 q hq => by
                      rcases List.mem_append.1 hq with h | h
                      · exact HWB.out q h
                      · obtain rfl : q = z := by simpa using h
                        exact ⟨h1, h2⟩
                    have HBX : Hid (∀ f1 w1, badB jb y k f1 w1 = (((y.kind == 1) != ((k : Int) == 0)) || (((y.kind == 9) != ((k : Int) == (l.length : Int) - 1)) || (((((jb.readers k).length : Int) == 0) != ((k : Int) == (l.length : Int) - 1)) || (decide (3 < ((jb.readers k).length : Int)) || (decide (2 < f1) || decide (64 < w1))))))) := fun f1 w1 => by rw [← HL.out]; rfl
                    clear hsum hR HWB ha2
                    have hkind : y.kind = 1 ∨ y.kind = 4 ∨ (y.kind ≠ 1 ∧ y.kind ≠ 4) := by omega
                    rcases hkind with h1 | h4 | ⟨h1, h4⟩
                    · have b1 : (y.kind == 1) = true := by simpa using h1
                      have b4 : (y.kind == 4) = false := by rw [h1]; rfl
                      have b9 : (y.kind == 9) = false := by rw [h1]; rfl
                      have HW1 : Hid (wayN y ws = 1) := by show _ = _; rw [HWY.out, if_pos h1]
                      have HF1 : Hid (flatN y f = f) := by show _ = _; rw [HFL.out, if_neg (by omega)]
                      have hn1 : (y.kind != 1) = false := by rw [bne, b1]; rfl
                      clear h1
                      rw [HW1.out, HF1.out] at HST
                      have HBY := Lib.hid (HBX.out f 1)
                      have hw0 : (0 : Int) ≤ 1 := by omega
                      have hfz : (0 : Int) ≤ f := by omega
                      have hon := own_keep hown ((Below.refl wr.heap.size wr).alloc (Nat.le_refl _) (.cells #[.int .i64 1] 3))
                      have hB1 := hBr.alloc (Nat.le_of_lt hbw) (.cells #[.int .i64 1] 3)
                      have hJ1 := hJr.alloc (.cells #[.int .i64 1] 3)
                      go_upto_region 36 with (at_builtin; refine wpList_append_own _ rfl _ _ 37 rfl (w.heap.size + 1) 3 j0 (.int .i64 0) 1 8 Tryz.underlying37 ki kz0 kz1 kz2 rfl (by decide) u10 k (ws.map (Value.int .i64)) rfl hon ⟨wr.heap.size, 0, none⟩ 1 1 [.int .i64 1] rfl rfl (cell_one_newJ _ _ _) (by simp [Value.oneCell']) (by unfold maxLen; omega) (by omega) (by simp; omega) ?_; intro v1' w3 hown3 hgrow3 _)
                      have hB3 := hB1.grown hgrow3 (by simp; omega) (fun q hq => by have := (hgn q hq).1; omega)
                      have hJ3 := hJ1.grown hgrow3 (fun e => by have := (hgn _ e.symm).1; omega)
                      have HO3 : Hid (w3.ownsRow (w.heap.size + 1) 3 1 v1' (k + 1) ((ws ++ [1]).map (Value.int .i64))) := by simpa [Hid] using hown3
                      clear hgrow3 hown3 hB1 hJ1 hon hown hBr hJr g1
                      have g0 := hJ3.cell 0
                      have g1 := hJ3.cell 1
                      go_upto_region 39 with (go_at_call 58; refine (HRD.out (k : Int) _ w.heap.size _ ((HJ.out.keep (hB3.mono hB)).mono hB) hB3.size).mono ?_; rintro e w5 ⟨v5, rfl, hsl5, hb5⟩; obtain ⟨_, a5, cap5, rfl, hc5, hm5, _⟩ := hsl5)
                      have hB5 := hB3.trans (hb5.mono hB3.size)
                      have hJ5 := hJ3.below hb5 hJ3.lt
                      have HO5 := Lib.hid (own_keep HO3.out hb5)
                      clear hB3 hJ3 HO3 g0 g1 hb5
                      have hrk := hrl.out (k : Int)
                      generalize (jb.readers (k : Int)).length = rr at *
                      cases hfi : ((k : Int) == 0)
                      · have HBD : Hid (badB jb y k f 1 = true) := by show _ = _; rw [HBY.out]; simp only [hfi, b1]; simp
                        go_wp2_with fail
                        go_ret2
                        refine ⟨?_, hB5⟩
                        rw [HM3.out, ← HST.out, HBD.out]
                        rfl
                      · cases hla : ((k : Int) == (l.length : Int) - 1)
                        · have hn9 : (y.kind != 9) = true := by rw [bne, b9]; rfl
                          cases hm1 : decide ((rr : Int) < 1)
                          · have hmz : ((rr : Int) == 0) = false := by rw [beq_eq_false_iff_ne]; have := of_decide_eq_false hm1; omega
                            cases hm3 : decide ((3 : Int) < (rr : Int))
                            · cases hf2d : decide ((2 : Int) < f)
                              · have hw64 : decide ((64 : Int) < 1) = false := by decide
                                have HBD : Hid (badB jb y k f 1 = false) := by show _ = _; rw [HBY.out]; simp only [hfi, b1, hla, b9, hmz, hm3, hf2d, hw64]; rfl
                                go_wp2_with fail
                                go_roundw
                                case rel => exact ⟨k + 1, f, ws ++ [1], by go_num, rfl, by omega, hB5, hJ5, hfz, by have := of_decide_eq_false hf2d; omega, HO5.out, by rw [List.length_append, HWK.out]; rfl, HWBN.out _ hw0 (by have := of_decide_eq_false hw64; omega), by rw [← HST.out, HBD.out]; rfl⟩
                                case measure => simp [intOf]; omega
                              · have HBD : Hid (badB jb y k f 1 = true) := by show _ = _; rw [HBY.out]; simp only [hfi, b1, hla, b9, hmz, hm3, hf2d]; simp
                                go_wp2_with fail
                                go_ret2
                                refine ⟨?_, hB5⟩
                                rw [HM3.out, ← HST.out, HBD.out]
                                rfl
                            · have HBD : Hid (badB jb y k f 1 = true) := by show _ = _; rw [HBY.out]; simp only [hfi, b1, hla, b9, hmz, hm3]; simp
                              go_wp2_with fail
                              go_ret2
                              refine ⟨?_, hB5⟩
                              rw [HM3.out, ← HST.out, HBD.out]
                              rfl
                          · have hmz : ((rr : Int) == 0) = true := by rw [beq_iff_eq]; have := of_decide_eq_true hm1; omega
                            have HBD : Hid (badB jb y k f 1 = true) := by show _ = _; rw [HBY.out]; simp only [hfi, b1, hla, b9, hmz]; simp
                            go_wp2_with fail
                            go_ret2
                            refine ⟨?_, hB5⟩
                            rw [HM3.out, ← HST.out, HBD.out]
                            rfl
                        · have hn9 : (y.kind != 9) = true := by rw [bne, b9]; rfl
                          have HBD : Hid (badB jb y k f 1 = true) := by show _ = _; rw [HBY.out]; simp only [hfi, b1, hla, b9]; simp
                          go_wp2_with fail
                          go_ret2
                          refine ⟨?_, hB5⟩
                          rw [HM3.out, ← HST.out, HBD.out]
                          rfl
                    · have b1 : (y.kind == 1) = false := by rw [h4]; rfl
                      have b4 : (y.kind == 4) = true := by simpa using h4
                      have b9 : (y.kind == 9) = false := by rw [h4]; rfl
                      have HW1 : Hid (wayN y ws = 4 * acc) := by show _ = _; rw [HWY.out, if_neg (by omega), if_pos h4, HSW.out, Int.mul_comm]
                      have HF1 : Hid (flatN y f = f + 1) := by show _ = _; rw [HFL.out, if_pos h4]
                      have hn1 : (y.kind != 1) = true := by rw [bne, b1]; rfl
                      clear h4
                      rw [HW1.out, HF1.out] at HST
                      have HBY := Lib.hid (HBX.out (f + 1) (4 * acc))
                      have hw0 : (0 : Int) ≤ (4 * acc) := by omega
                      have hfz : (0 : Int) ≤ (f + 1) := by omega
                      have hon := own_keep hown ((Below.refl wr.heap.size wr).alloc (Nat.le_refl _) (.cells #[.int .i64 (4 * acc)] 3))
                      have hB1 := hBr.alloc (Nat.le_of_lt hbw) (.cells #[.int .i64 (4 * acc)] 3)
                      have hJ1 := hJr.alloc (.cells #[.int .i64 (4 * acc)] 3)
                      go_upto_region 36 with (at_builtin; refine wpList_append_own _ rfl _ _ 37 rfl (w.heap.size + 1) 3 j0 (.int .i64 0) 1 8 Tryz.underlying37 ki kz0 kz1 kz2 rfl (by decide) u10 k (ws.map (Value.int .i64)) rfl hon ⟨wr.heap.size, 0, none⟩ 1 1 [.int .i64 (4 * acc)] rfl rfl (cell_one_newJ _ _ _) (by simp [Value.oneCell']) (by unfold maxLen; omega) (by omega) (by simp; omega) ?_; intro v1' w3 hown3 hgrow3 _)
                      have hB3 := hB1.grown hgrow3 (by simp; omega) (fun q hq => by have := (hgn q hq).1; omega)
                      have hJ3 := hJ1.grown hgrow3 (fun e => by have := (hgn _ e.symm).1; omega)
                      have HO3 : Hid (w3.ownsRow (w.heap.size + 1) 3 1 v1' (k + 1) ((ws ++ [(4 * acc)]).map (Value.int .i64))) := by simpa [Hid] using hown3
                      clear hgrow3 hown3 hB1 hJ1 hon hown hBr hJr g1
                      have g0 := hJ3.cell 0
                      have g1 := hJ3.cell 1
                      go_upto_region 39 with (go_at_call 58; refine (HRD.out (k : Int) _ w.heap.size _ ((HJ.out.keep (hB3.mono hB)).mono hB) hB3.size).mono ?_; rintro e w5 ⟨v5, rfl, hsl5, hb5⟩; obtain ⟨_, a5, cap5, rfl, hc5, hm5, _⟩ := hsl5)
                      have hB5 := hB3.trans (hb5.mono hB3.size)
                      have hJ5 := hJ3.below hb5 hJ3.lt
                      have HO5 := Lib.hid (own_keep HO3.out hb5)
                      clear hB3 hJ3 HO3 g0 g1 hb5
                      have hrk := hrl.out (k : Int)
                      generalize (jb.readers (k : Int)).length = rr at *
                      cases hfi : ((k : Int) == 0)
                      · cases hla : ((k : Int) == (l.length : Int) - 1)
                        · have hn9 : (y.kind != 9) = true := by rw [bne, b9]; rfl
                          cases hm1 : decide ((rr : Int) < 1)
                          · have hmz : ((rr : Int) == 0) = false := by rw [beq_eq_false_iff_ne]; have := of_decide_eq_false hm1; omega
                            cases hm3 : decide ((3 : Int) < (rr : Int))
                            · cases hf2d : decide ((2 : Int) < (f + 1))
                              · cases hw64 : decide ((64 : Int) < (4 * acc))
                                · have HBD : Hid (badB jb y k (f + 1) (4 * acc) = false) := by show _ = _; rw [HBY.out]; simp only [hfi, b1, hla, b9, hmz, hm3, hf2d, hw64]; rfl
                                  go_wp2_with fail
                                  go_roundw
                                  case rel => exact ⟨k + 1, (f + 1), ws ++ [(4 * acc)], by go_num, rfl, by omega, hB5, hJ5, hfz, by have := of_decide_eq_false hf2d; omega, HO5.out, by rw [List.length_append, HWK.out]; rfl, HWBN.out _ hw0 (by have := of_decide_eq_false hw64; omega), by rw [← HST.out, HBD.out]; rfl⟩
                                  case measure => simp [intOf]; omega
                                · have HBD : Hid (badB jb y k (f + 1) (4 * acc) = true) := by show _ = _; rw [HBY.out]; simp only [hfi, b1, hla, b9, hmz, hm3, hf2d, hw64]; simp
                                  go_wp2_with fail
                                  go_ret2
                                  refine ⟨?_, hB5⟩
                                  rw [HM3.out, ← HST.out, HBD.out]
                                  rfl
                              · have HBD : Hid (badB jb y k (f + 1) (4 * acc) = true) := by show _ = _; rw [HBY.out]; simp only [hfi, b1, hla, b9, hmz, hm3, hf2d]; simp
                                go_wp2_with fail
                                go_ret2
                                refine ⟨?_, hB5⟩
                                rw [HM3.out, ← HST.out, HBD.out]
                                rfl
                            · have HBD : Hid (badB jb y k (f + 1) (4 * acc) = true) := by show _ = _; rw [HBY.out]; simp only [hfi, b1, hla, b9, hmz, hm3]; simp
                              go_wp2_with fail
                              go_ret2
                              refine ⟨?_, hB5⟩
                              rw [HM3.out, ← HST.out, HBD.out]
                              rfl
                          · have hmz : ((rr : Int) == 0) = true := by rw [beq_iff_eq]; have := of_decide_eq_true hm1; omega
                            have HBD : Hid (badB jb y k (f + 1) (4 * acc) = true) := by show _ = _; rw [HBY.out]; simp only [hfi, b1, hla, b9, hmz]; simp
                            go_wp2_with fail
                            go_ret2
                            refine ⟨?_, hB5⟩
                            rw [HM3.out, ← HST.out, HBD.out]
                            rfl
                        · have hn9 : (y.kind != 9) = true := by rw [bne, b9]; rfl
                          have HBD : Hid (badB jb y k (f + 1) (4 * acc) = true) := by show _ = _; rw [HBY.out]; simp only [hfi, b1, hla, b9]; simp
                          go_wp2_with fail
                          go_ret2
                          refine ⟨?_, hB5⟩
                          rw [HM3.out, ← HST.out, HBD.out]
                          rfl
                      · have HBD : Hid (badB jb y k (f + 1) (4 * acc) = true) := by show _ = _; rw [HBY.out]; simp only [hfi, b1]; simp
                        go_wp2_with fail
                        go_ret2
                        refine ⟨?_, hB5⟩
                        rw [HM3.out, ← HST.out, HBD.out]
                        rfl
                    · have b1 : (y.kind == 1) = false := by simpa using h1
                      have b4 : (y.kind == 4) = false := by simpa using h4
                      have HW1 : Hid (wayN y ws = acc) := by show _ = _; rw [HWY.out, if_neg h1, if_neg h4, HSW.out]
                      have HF1 : Hid (flatN y f = f) := by show _ = _; rw [HFL.out, if_neg h4]
                      have hn1 : (y.kind != 1) = true := by rw [bne, b1]; rfl
                      clear h1 h4
                      rw [HW1.out, HF1.out] at HST
                      have HBY := Lib.hid (HBX.out f acc)
                      have hw0 : (0 : Int) ≤ acc := by omega
                      have hfz : (0 : Int) ≤ f := by omega
                      have hon := own_keep hown ((Below.refl wr.heap.size wr).alloc (Nat.le_refl _) (.cells #[.int .i64 acc] 3))
                      have hB1 := hBr.alloc (Nat.le_of_lt hbw) (.cells #[.int .i64 acc] 3)
                      have hJ1 := hJr.alloc (.cells #[.int .i64 acc] 3)
                      go_upto_region 36 with (at_builtin; refine wpList_append_own _ rfl _ _ 37 rfl (w.heap.size + 1) 3 j0 (.int .i64 0) 1 8 Tryz.underlying37 ki kz0 kz1 kz2 rfl (by decide) u10 k (ws.map (Value.int .i64)) rfl hon ⟨wr.heap.size, 0, none⟩ 1 1 [.int .i64 acc] rfl rfl (cell_one_newJ _ _ _) (by simp [Value.oneCell']) (by unfold maxLen; omega) (by omega) (by simp; omega) ?_; intro v1' w3 hown3 hgrow3 _)
                      have hB3 := hB1.grown hgrow3 (by simp; omega) (fun q hq => by have := (hgn q hq).1; omega)
                      have hJ3 := hJ1.grown hgrow3 (fun e => by have := (hgn _ e.symm).1; omega)
                      have HO3 : Hid (w3.ownsRow (w.heap.size + 1) 3 1 v1' (k + 1) ((ws ++ [acc]).map (Value.int .i64))) := by simpa [Hid] using hown3
                      clear hgrow3 hown3 hB1 hJ1 hon hown hBr hJr g1
                      have g0 := hJ3.cell 0
                      have g1 := hJ3.cell 1
                      go_upto_region 39 with (go_at_call 58; refine (HRD.out (k : Int) _ w.heap.size _ ((HJ.out.keep (hB3.mono hB)).mono hB) hB3.size).mono ?_; rintro e w5 ⟨v5, rfl, hsl5, hb5⟩; obtain ⟨_, a5, cap5, rfl, hc5, hm5, _⟩ := hsl5)
                      have hB5 := hB3.trans (hb5.mono hB3.size)
                      have hJ5 := hJ3.below hb5 hJ3.lt
                      have HO5 := Lib.hid (own_keep HO3.out hb5)
                      clear hB3 hJ3 HO3 g0 g1 hb5
                      have hrk := hrl.out (k : Int)
                      generalize (jb.readers (k : Int)).length = rr at *
                      cases hfi : ((k : Int) == 0)
                      · cases hla : ((k : Int) == (l.length : Int) - 1)
                        · cases b9 : (y.kind == 9)
                          · have hn9 : (y.kind != 9) = true := by rw [bne, b9]; rfl
                            cases hm1 : decide ((rr : Int) < 1)
                            · have hmz : ((rr : Int) == 0) = false := by rw [beq_eq_false_iff_ne]; have := of_decide_eq_false hm1; omega
                              cases hm3 : decide ((3 : Int) < (rr : Int))
                              · cases hf2d : decide ((2 : Int) < f)
                                · cases hw64 : decide ((64 : Int) < acc)
                                  · have HBD : Hid (badB jb y k f acc = false) := by show _ = _; rw [HBY.out]; simp only [hfi, b1, hla, b9, hmz, hm3, hf2d, hw64]; rfl
                                    go_wp2_with fail
                                    go_roundw
                                    case rel => exact ⟨k + 1, f, ws ++ [acc], by go_num, rfl, by omega, hB5, hJ5, hfz, by have := of_decide_eq_false hf2d; omega, HO5.out, by rw [List.length_append, HWK.out]; rfl, HWBN.out _ hw0 (by have := of_decide_eq_false hw64; omega), by rw [← HST.out, HBD.out]; rfl⟩
                                    case measure => simp [intOf]; omega
                                  · have HBD : Hid (badB jb y k f acc = true) := by show _ = _; rw [HBY.out]; simp only [hfi, b1, hla, b9, hmz, hm3, hf2d, hw64]; simp
                                    go_wp2_with fail
                                    go_ret2
                                    refine ⟨?_, hB5⟩
                                    rw [HM3.out, ← HST.out, HBD.out]
                                    rfl
                                · have HBD : Hid (badB jb y k f acc = true) := by show _ = _; rw [HBY.out]; simp only [hfi, b1, hla, b9, hmz, hm3, hf2d]; simp
                                  go_wp2_with fail
                                  go_ret2
                                  refine ⟨?_, hB5⟩
                                  rw [HM3.out, ← HST.out, HBD.out]
                                  rfl
                              · have HBD : Hid (badB jb y k f acc = true) := by show _ = _; rw [HBY.out]; simp only [hfi, b1, hla, b9, hmz, hm3]; simp
                                go_wp2_with fail
                                go_ret2
                                refine ⟨?_, hB5⟩
                                rw [HM3.out, ← HST.out, HBD.out]
                                rfl
                            · have hmz : ((rr : Int) == 0) = true := by rw [beq_iff_eq]; have := of_decide_eq_true hm1; omega
                              have HBD : Hid (badB jb y k f acc = true) := by show _ = _; rw [HBY.out]; simp only [hfi, b1, hla, b9, hmz]; simp
                              go_wp2_with fail
                              go_ret2
                              refine ⟨?_, hB5⟩
                              rw [HM3.out, ← HST.out, HBD.out]
                              rfl
                          · have hn9 : (y.kind != 9) = false := by rw [bne, b9]; rfl
                            have HBD : Hid (badB jb y k f acc = true) := by show _ = _; rw [HBY.out]; simp only [hfi, b1, hla, b9]; simp
                            go_wp2_with fail
                            go_ret2
                            refine ⟨?_, hB5⟩
                            rw [HM3.out, ← HST.out, HBD.out]
                            rfl
                        · cases b9 : (y.kind == 9)
                          · have hn9 : (y.kind != 9) = true := by rw [bne, b9]; rfl
                            have HBD : Hid (badB jb y k f acc = true) := by show _ = _; rw [HBY.out]; simp only [hfi, b1, hla, b9]; simp
                            go_wp2_with fail
                            go_ret2
                            refine ⟨?_, hB5⟩
                            rw [HM3.out, ← HST.out, HBD.out]
                            rfl
                          · have hn9 : (y.kind != 9) = false := by rw [bne, b9]; rfl
                            cases hm0 : decide ((0 : Int) < (rr : Int))
                            · obtain rfl : rr = 0 := by have := of_decide_eq_false hm0; omega
                              have hmz : (((0 : Nat) : Int) == 0) = true := rfl
                              have hm3 : decide ((3 : Int) < ((0 : Nat) : Int)) = false := rfl
                              cases hf2d : decide ((2 : Int) < f)
                              · cases hw64 : decide ((64 : Int) < acc)
                                · have HBD : Hid (badB jb y k f acc = false) := by show _ = _; rw [HBY.out]; simp only [hfi, b1, hla, b9, hmz, hm3, hf2d, hw64]; rfl
                                  go_wp2_with fail
                                  go_roundw
                                  case rel => exact ⟨k + 1, f, ws ++ [acc], by go_num, rfl, by omega, hB5, hJ5, hfz, by have := of_decide_eq_false hf2d; omega, HO5.out, by rw [List.length_append, HWK.out]; rfl, HWBN.out _ hw0 (by have := of_decide_eq_false hw64; omega), by rw [← HST.out, HBD.out]; rfl⟩
                                  case measure => simp [intOf]; omega
                                · have HBD : Hid (badB jb y k f acc = true) := by show _ = _; rw [HBY.out]; simp only [hfi, b1, hla, b9, hmz, hm3, hf2d, hw64]; simp
                                  go_wp2_with fail
                                  go_ret2
                                  refine ⟨?_, hB5⟩
                                  rw [HM3.out, ← HST.out, HBD.out]
                                  rfl
                              · have HBD : Hid (badB jb y k f acc = true) := by show _ = _; rw [HBY.out]; simp only [hfi, b1, hla, b9, hmz, hm3, hf2d]; simp
                                go_wp2_with fail
                                go_ret2
                                refine ⟨?_, hB5⟩
                                rw [HM3.out, ← HST.out, HBD.out]
                                rfl
                            · have hm0p : 0 < rr := by have := of_decide_eq_true hm0; omega
                              have hm0n : decide (0 < rr) = true := decide_eq_true hm0p
                              have hm1 : decide ((rr : Int) < 1) = false := decide_eq_false (by have := of_decide_eq_true hm0; omega)
                              have hmz : ((rr : Int) == 0) = false := by rw [beq_eq_false_iff_ne]; have := of_decide_eq_true hm0; omega
                              have HBD : Hid (badB jb y k f acc = true) := by show _ = _; rw [HBY.out]; simp only [hfi, b1, hla, b9, hmz]; simp
                              go_wp2_with fail
                              go_ret2
                              refine ⟨?_, hB5⟩
                              rw [HM3.out, ← HST.out, HBD.out]
                              rfl
                      · have HBD : Hid (badB jb y k f acc = true) := by show _ = _; rw [HBY.out]; simp only [hfi, b1]; simp
                        go_wp2_with fail
                        go_ret2
                        refine ⟨?_, hB5⟩
                        rw [HM3.out, ← HST.out, HBD.out]
                        rfl
              · have hd1 : decide ((k : Int) < (l.length : Int)) = false := decide_eq_false (by omega)
                have hst := hR.st
                rw [List.drop_of_length_le (by omega)] at hst
                simp only [st2] at hst
                have HM4 : Hid (mm = (0, 0)) := by show _ = _; rw [HM3.out, ← hst]
                go_wp2_with fail
                go_ret2
                exact ⟨by rw [HM4.out]; rfl, hBr⟩
end Go.Proofs.YtjbchkgkapccnaaGreatDoor
