/-
  The reference's text of a job (ref13).
-/
import Derived.Test.YtjbchkgkapccnaaGreatDoorNA
import Derived.Test.YtjbchkgkapccnaaGreatDoorTC
import Derived.Test.YtjbchkgkapccnaaGreatDoorD5
import Derived.Deep.QuietTactic
import Derived.BigQuiet
namespace Go.Proofs.YtjbchkgkapccnaaGreatDoor
open Go.RowKit
set_option linter.unusedVariables false
set_option linter.unusedSimpArgs false

theorem cat_word (s : ByteArray) (ws : List ByteArray) (x : ByteArray) (h : 0 < ws.length) : ((s ++ joinB ws) ++ { data := #[32] }) ++ x = s ++ joinB (ws ++ [x]) := by
  apply ba_ext
  unfold joinB ba
  simp only [ByteArray.data_append, Array.toList_append, List.map_append, List.map_cons, List.map_nil]
  match ws, h with
  | a :: r, _ =>
    rw [List.map_cons, List.cons_append, Lib.join_cons, Lib.join_cons]
    unfold Lib.joinTail
    simp
theorem cat_two (s : ByteArray) (ws : List ByteArray) (x : ByteArray) (h : 0 < ws.length) : ((s ++ joinB ws) ++ { data := #[32, 58, 32] }) ++ x = s ++ joinB (ws ++ [colS, x]) := by
  apply ba_ext
  unfold joinB ba
  simp only [ByteArray.data_append, Array.toList_append, List.map_append, List.map_cons, List.map_nil]
  match ws, h with
  | a :: r, _ =>
    rw [List.map_cons, List.cons_append, Lib.join_cons, Lib.join_cons]
    unfold Lib.joinTail colS
    simp
theorem cat_start (s u k : ByteArray) : ((s ++ u) ++ { data := #[32] }) ++ k = s ++ joinB [u, k] := by
  apply ba_ext
  unfold joinB ba
  simp only [ByteArray.data_append, Array.toList_append, List.map_cons, List.map_nil]
  rw [Lib.join_cons]
  unfold Lib.joinTail
  simp

theorem rhas_c (k : Int) (w : World) : Calls Tryz.prog 28 #[.int .u8 k] w fun e w' => e = .returned (.bool (hasK k)) ∧ w = w' := by
  go_enter Tryz.func28, Tryz.ntmps28
  go_wp2
  all_goals
    go_ret
    exact ⟨ret_bool (by unfold hasK; rw [Bool.eq_iff_iff]; simp; try omega), rfl⟩
set_option maxRecDepth 20000 in
set_option maxHeartbeats 1000000 in
theorem rword_c (k : Int) (h1 : 1 ≤ k) (h9 : k ≤ 9) (w : World) : Calls Tryz.prog 27 #[.int .u8 k] w fun e w' => e = .returned (.string (wordK k)) ∧ Below w.heap.size w w' := by
  have : k = 1 ∨ k = 2 ∨ k = 3 ∨ k = 4 ∨ k = 5 ∨ k = 6 ∨ k = 7 ∨ k = 8 ∨ k = 9 := by omega
  rcases this with rfl | rfl | rfl | rfl | rfl | rfl | rfl | rfl | rfl
  all_goals
    go_enter Tryz.func27, Tryz.ntmps27
    go_wp2
    go_ret
    exact ⟨rfl, (Below.refl _ _).alloc (Nat.le_refl _) _⟩

structure RLoop (j : Jb) (w : World) (na : Option Addr) (ncap : Nat) (tj : ByteArray × Int) (sv iv : Value) (wr : World) : Prop where
  ex : ∃ (k : Nat) (s : ByteArray), iv = .int .i64 k ∧ k ≤ j.nodes.length ∧ sv = .string s ∧ tellGo j (j.nodes.drop k) s = tj ∧ s.size ≤ 10 + 5000 * k ∧ Blk wr w.heap.size 24 #[.int .i64 j.par, .slice na j.nodes.length ncap] ∧ Below w.heap.size w wr
structure RS (j : Jb) (w : World) (na : Option Addr) (ncap bn : Nat) (d : Nd) (iv sv : Value) (s : ByteArray) (ws : List ByteArray) (v : Value) (wr : World) : Prop where
  str : v = .string (s ++ joinB ws)
  below : Below w.heap.size w wr
  job : Blk wr w.heap.size 24 #[.int .i64 j.par, .slice na j.nodes.length ncap]
  node : Blk wr bn 49 #[.string d.uid, .int .u8 d.kind, iv, .int .u8 d.x.op, .int .i64 d.x.n, sv, .int .i64 d.n]
theorem RS.keep {j : Jb} {w wr wx : World} {na : Option Addr} {ncap bn : Nat} {d : Nd} {iv sv v : Value} {s : ByteArray} {ws : List ByteArray} (h : RS j w na ncap bn d iv sv s ws v wr) (hb : Below wr.heap.size wr wx) : RS j w na ncap bn d iv sv s ws v wx :=
  ⟨h.str, h.below.trans (hb.mono h.below.size), h.job.below hb h.job.lt, h.node.below hb h.node.lt⟩
structure RIn (j : Jb) (w : World) (na : Option Addr) (ncap bn : Nat) (d : Nd) (iv sv : Value) (s : ByteArray) (v i : Value) (wr : World) : Prop where
  ex : ∃ q : Nat, i = .int .i64 q ∧ q ≤ d.ins.length ∧ RS j w na ncap bn d iv sv s ([d.uid, wordK d.kind] ++ (d.ins.take q).map (uidAt j)) v wr

set_option maxRecDepth 100000 in
set_option maxHeartbeats 4000000 in
theorem rText_c (j : Jb) (vj : Value) (w : World) (hj : JbAt w w.heap.size vj j) (hok : j.ok) (hus : ∀ d ∈ j.nodes, d.uid.size ≤ 1000000) (hlen : j.nodes.length ≤ 1000) :
    Calls Tryz.prog 11 #[vj] w fun e w' => e = .returned (.tuple #[.string (tellJ j).1, .int .i64 (tellJ j).2]) ∧ Below w.heap.size w w' := by
  obtain ⟨nv, rfl, hns⟩ := hj
  obtain ⟨na, ncap, rfl, hnc, hnm⟩ := hns.slice
  have HNS := Lib.hid hns
  have hW := (Below.refl w.heap.size w).alloc (Nat.le_refl _) (.cells #[.int .i64 j.par, .slice na j.nodes.length ncap] 24)
  have HMY := Lib.hid (rMayJ_c j hok hus hlen (.agg #[.int .i64 j.par, .slice na j.nodes.length ncap]) w.heap.size (w.alloc (.cells #[.int .i64 j.par, .slice na j.nodes.length ncap] 24)) ⟨_, rfl, hns.keep hW⟩ hW.size)
  have hjb := Blk.new w #[.int .i64 j.par, .slice na j.nodes.length ncap] 24
  have HG := Lib.hid (@may_good j)
  have HND := Lib.hid (@good_nd j)
  have HTJ : Hid (tellJ j = if j.may.2 ≠ 0 then (.empty, 2) else tellGo j j.nodes ((parS ++ decB j.par.toNat) ++ nlS)) := rfl
  generalize tellJ j = tj at *
  generalize j.may = mm at *
  obtain ⟨mi, me⟩ := mm
  dsimp only at HTJ HG HND
  clear hns
  go_enter Tryz.func11, Tryz.ntmps11
  go_wp2_with fail
  refine HMY.out.mono ?_
  rintro e w1 ⟨rfl, hb1⟩
  have hJ1 := hjb.below hb1 hjb.lt
  have hB1 := hW.trans (hb1.mono hW.size)
  generalize World.alloc w _ = W0 at *
  clear HMY hjb
  by_cases he : me = 0
  · subst he
    rw [if_neg (fun h => h rfl)] at HTJ
    have g := HG.out rfl
    have g1 := g.p1
    have g2 := g.p2
    have g3 := g.n2
    have HND2 := Lib.hid (HND.out rfl)
    obtain ⟨pn, hpn⟩ : ∃ k : Nat, j.par = (k : Int) := ⟨j.par.toNat, by omega⟩
    rw [hpn, Int.toNat_natCast] at HTJ
    have e0 := hJ1.cell 0
    have e1 := hJ1.cell 1
    have HIT : Hid (∀ w, Calls Tryz.prog 26 #[.int .i64 j.par] w fun e w' => e = .returned (.string (decB pn)) ∧ Below w.heap.size w w') := fun w => by rw [hpn]; exact digits_c pn (by omega) w
    have HDS := Lib.hid (dec_size pn (by omega))
    clear HG HND g hpn
    have HTS : Hid (tellGo j (j.nodes.drop 0) (({ data := #[112, 97, 114, 32] } ++ decB pn) ++ { data := #[10] }) = tj) := HTJ.out.symm
    generalize decB pn = dp at *
    have hds : dp.size ≤ 2 := HDS.out
    have hs1 : (({ data := #[112, 97, 114, 32] } : ByteArray) ++ dp).size ≤ 6 := by rw [ByteArray.size_append]; show 4 + dp.size ≤ 6; omega
    have hs2 : (({ data := #[112, 97, 114, 32] } ++ dp) ++ { data := #[10] } : ByteArray).size ≤ 7 := by rw [ByteArray.size_append]; show _ + 1 ≤ 7; omega
    have HS2 := Lib.hid hs2
    have HJ1 := Lib.hid hJ1
    clear HTJ HDS hs2 hJ1 hb1 hW
    generalize hN : j.nodes.length = N at *
    have HN := Lib.hid hN
    clear hN
    go_wp2_with fail
    refine (HIT.out w1).mono ?_
    rintro e w2 ⟨rfl, hb2⟩
    have HJ2 := Lib.hid (HJ1.out.below hb2 HJ1.out.lt)
    have hB2 := hB1.trans (hb2.mono hB1.size)
    clear e0 e1 HIT HJ1 hB1 hb2
    go_upto_region 6 with fail
    go_loopw [6, 7] (fun sv iv wr => RLoop j w na ncap tj sv iv wr) (fun _ i _ => N - (intOf i).toNat)
    case atStart => exact ⟨0, _, rfl, Nat.zero_le _, rfl, HTS.out, Nat.le_trans HS2.out (by decide), by rw [HN.out]; exact HJ2.out, hB2⟩
    case round =>
      obtain ⟨k, s, rfl, hkN, rfl, htj, hss, hjr, hbr⟩ := hrel.ex
      clear hrel
      rw [HN.out] at hkN hjr
      have HJR := Lib.hid hjr
      have HTK := Lib.hid htj
      have e1 := hjr.cell 1
      clear hjr htj
      by_cases hlt : k < N
      · have hkl : k < j.nodes.length := by rw [HN.out]; exact hlt
        obtain ⟨b, off, cap, e0, hbl, hus1, iv, sv, a0, a1, a2, a3, a4, a5, a6, hin⟩ := HNS.out.at_ k hkl
        have c0 := (hbr.cell (p := ⟨b, off + k * 7, none⟩) hbl).trans a0
        have c1 := (hbr.cell (p := ⟨b, off + k * 7 + 1, none⟩) hbl).trans a1
        have c2 := (hbr.cell (p := ⟨b, off + k * 7 + 2, none⟩) hbl).trans a2
        have c3 := (hbr.cell (p := ⟨b, off + k * 7 + 3, none⟩) hbl).trans a3
        have c4 := (hbr.cell (p := ⟨b, off + k * 7 + 4, none⟩) hbl).trans a4
        have c5 := (hbr.cell (p := ⟨b, off + k * 7 + 5, none⟩) hbl).trans a5
        have c6 := (hbr.cell (p := ⟨b, off + k * 7 + 6, none⟩) hbl).trans a6
        clear a0 a1 a2 a3 a4 a5 a6
        simp only [Value.slice.injEq] at e0
        obtain ⟨rfl, hcl, rfl⟩ := e0
        clear hcl
        have HGD := Lib.hid (HND2.out _ (List.getElem_mem hkl))
        have HOK : Hid (j.nodes[k].ok) := hok.2.2 _ (List.getElem_mem hkl)
        have HTD : Hid (tj = if hasK j.nodes[k].kind = true ∧ j.nodes[k].x.told.2 ≠ 0 then (.empty, j.nodes[k].x.told.2) else tellGo j (j.nodes.drop (k + 1)) (s ++ (joinB (tellW j j.nodes[k]) ++ nlS))) := by
          rw [← HTK.out, List.drop_eq_getElem_cons hkl]
          rfl
        generalize j.nodes[k] = d at *
        obtain ⟨hins, hxs⟩ := hin
        have HIS := Lib.hid hins
        have HXS := Lib.hid hxs
        obtain ⟨_, ia, ic, rfl, _, _, _⟩ := hins
        obtain ⟨sa, sc, rfl, _, _⟩ := hxs.slice
        clear hxs
        have hws : w.heap.size < wr.heap.size := HJR.out.lt
        have hbw : b < wr.heap.size := by omega
        have hs6 : s.size ≤ 60010 := by omega
        have hu96 := HGD.out.uid
        have HY : Hid (Blk (wr.alloc (.cells #[.string d.uid, .int .u8 d.kind, .slice ia d.ins.length ic, .int .u8 d.x.op, .int .i64 d.x.n, .slice sa d.x.args.length sc, .int .i64 d.n] 49)) wr.heap.size 49 #[.string d.uid, .int .u8 d.kind, .slice ia d.ins.length ic, .int .u8 d.x.op, .int .i64 d.x.n, .slice sa d.x.args.length sc, .int .i64 d.n]) := Blk.new _ _ _
        have hbY := hbr.alloc hbr.size (.cells #[.string d.uid, .int .u8 d.kind, .slice ia d.ins.length ic, .int .u8 d.x.op, .int .i64 d.x.n, .slice sa d.x.args.length sc, .int .i64 d.n] 49)
        have HJY : Hid (Blk (wr.alloc (.cells #[.string d.uid, .int .u8 d.kind, .slice ia d.ins.length ic, .int .u8 d.x.op, .int .i64 d.x.n, .slice sa d.x.args.length sc, .int .i64 d.n] 49)) w.heap.size 24 #[.int .i64 j.par, .slice (some ⟨b, off, none⟩) j.nodes.length ncap]) := by rw [HN.out]; exact HJR.out.alloc _
        have hk6 := wordK_size d.kind HGD.out.k1 HGD.out.k9
        have hz1 : (s ++ d.uid).size ≤ 61000 := by rw [ByteArray.size_append]; omega
        have hz2 : ((s ++ d.uid) ++ { data := #[32] } : ByteArray).size ≤ 62000 := by rw [ByteArray.size_append]; show _ + 1 ≤ 62000; omega
        have hbnw : w.heap.size < wr.heap.size := hws
        go_upto_region 9 with fail
        generalize World.alloc wr _ = W1 at *
        generalize wr.heap.size = bn at *
        clear c0 c1 c2 c3 c4 c5 c6
        go_cut [6] (fun s6 wx => RS j w (some ⟨b, off, none⟩) ncap bn d (.slice ia d.ins.length ic) (.slice sa d.x.args.length sc) s [d.uid, wordK d.kind] s6 wx)
        case first =>
--R9
          refine wp_region_held_drew (S := (fun w' => Blk w' bn 49 #[.string d.uid, .int .u8 d.kind, .slice ia d.ins.length ic, .int .u8 d.x.op, .int .i64 d.x.n, .slice sa d.x.args.length sc, .int .i64 d.n] ∧ Below W1.heap.size W1 w')) (by kernel_rfl) ?_ (fun hHeld => ?_)
          · exact ⟨HY.out.drew, (Below.refl W1.heap.size W1).drew⟩
          refine wpAnyH_take (i := 0) (oi := _) (v := ?_) rfl (by kernel_rfl) (by kernel_rfl) (by kernel_rfl) (fun _ _ _ h => h) (Or.inl ⟨by rfl, ?_⟩) (by assumption) ?_
          rotate_left
          · intro w' hSw
            (try dsimp only at hSw)
            have n0 := hSw.1.cell 0
            have n1 := hSw.1.cell 1
            clear hSw
            go_simp
            try with_reducible rfl
          try simp only [Act.put, List.getElem_toArray, List.getElem_cons_zero, List.setIfInBounds_toArray, List.set_cons_zero, List.set_cons_succ]
          refine wpAnyH_take (i := 1) (oi := _) (v := ?_) rfl (by kernel_rfl) (by kernel_rfl) (by kernel_rfl) (fun _ _ _ h => h) (Or.inl ⟨by rfl, ?_⟩) (by assumption) ?_
          rotate_left
          · intro w' hSw
            (try dsimp only at hSw)
            have n0 := hSw.1.cell 0
            have n1 := hSw.1.cell 1
            clear hSw
            go_simp
            try with_reducible rfl
          try simp only [Act.put, List.getElem_toArray, List.getElem_cons_zero, List.getElem_cons_succ, List.setIfInBounds_toArray, List.set_cons_zero, List.set_cons_succ]
          refine wpAnyH_take (i := 2) (oi := _) (v := ?_) rfl (by kernel_rfl) (by kernel_rfl) (by kernel_rfl) (fun _ _ _ h => h) (Or.inl ⟨by rfl, ?_⟩) (by assumption) ?_
          rotate_left
          · intro w' hSw
            (try dsimp only at hSw)
            have n0 := hSw.1.cell 0
            have n1 := hSw.1.cell 1
            clear hSw
            go_simp
            try with_reducible rfl
          try simp only [Act.put, List.getElem_toArray, List.getElem_cons_zero, List.getElem_cons_succ, List.setIfInBounds_toArray, List.set_cons_zero, List.set_cons_succ]
          refine wpAnyH_take (i := 3) (oi := _) (v := ?_) rfl (by kernel_rfl) (by kernel_rfl) (by kernel_rfl) (fun _ _ _ h => h) (Or.inl ⟨by rfl, ?_⟩) (by assumption) ?_
          rotate_left
          · intro w' hSw
            (try dsimp only at hSw)
            have n0 := hSw.1.cell 0
            have n1 := hSw.1.cell 1
            clear hSw
            go_simp
            first | rw [if_neg (by omega)] | rw [if_neg (by simp; omega)]
            try with_reducible rfl
          try simp only [Act.put, List.getElem_toArray, List.getElem_cons_zero, List.getElem_cons_succ, List.setIfInBounds_toArray, List.set_cons_zero, List.set_cons_succ]
          refine wpAnyH_take (i := 4) (oi := _) (v := ?_) rfl (by kernel_rfl) (by kernel_rfl) (by kernel_rfl) (fun _ _ _ h => h) (Or.inl ⟨by rfl, ?_⟩) (by assumption) ?_
          rotate_left
          · intro w' hSw
            (try dsimp only at hSw)
            have n0 := hSw.1.cell 0
            have n1 := hSw.1.cell 1
            clear hSw
            go_simp
            first | rw [if_neg (by omega)] | rw [if_neg (by simp; omega)]
            try with_reducible rfl
          try simp only [Act.put, List.getElem_toArray, List.getElem_cons_zero, List.getElem_cons_succ, List.setIfInBounds_toArray, List.set_cons_zero, List.set_cons_succ]
          refine wpAnyH_take (i := 5) (oi := _) (v := ?_) rfl (by kernel_rfl) (by kernel_rfl) (by kernel_rfl) (fun _ _ _ h => h) (Or.inl ⟨by rfl, ?_⟩) (by assumption) ?_
          rotate_left
          · intro w' hSw
            (try dsimp only at hSw)
            have n0 := hSw.1.cell 0
            have n1 := hSw.1.cell 1
            clear hSw
            go_simp
            try with_reducible rfl
          try simp only [Act.put, List.getElem_toArray, List.getElem_cons_zero, List.getElem_cons_succ, List.setIfInBounds_toArray, List.set_cons_zero, List.set_cons_succ]
          refine wpAnyH_take (i := 6) (oi := _) (v := ?_) rfl (by kernel_rfl) (by kernel_rfl) (by kernel_rfl) (fun _ _ _ h => h) (Or.inl ⟨by rfl, ?_⟩) (by assumption) ?_
          rotate_left
          · intro w' hSw
            (try dsimp only at hSw)
            have n0 := hSw.1.cell 0
            have n1 := hSw.1.cell 1
            clear hSw
            go_simp
            try with_reducible rfl
          try simp only [Act.put, List.getElem_toArray, List.getElem_cons_zero, List.getElem_cons_succ, List.setIfInBounds_toArray, List.set_cons_zero, List.set_cons_succ]
          refine wpAnyH_ready (rs := [7]) (by kernel_rfl) (by simp) ?_
          refine AllReadyH.cons rfl (fun K hK => ?_) AllReadyH.nil
          go_simp
          go_at_call 27
          refine (rword_c d.kind HGD.out.k1 HGD.out.k9 _).mono ?_
          rintro e w2 ⟨rfl, hb2⟩
          have hb3 := ((Below.refl W1.heap.size W1).drew).trans hb2
          refine hK.out _ _ ?_ (fun hHeld => ?_)
          · exact ⟨HY.out.below hb3 HY.out.lt, hb3⟩
          clear hK K
          try simp only [Act.put, List.getElem_toArray, List.getElem_cons_zero, List.getElem_cons_succ, List.setIfInBounds_toArray, List.set_cons_zero, List.set_cons_succ]
          refine wpAnyH_take (i := 8) (oi := _) (v := ?_) rfl (by kernel_rfl) (by kernel_rfl) (by kernel_rfl) (fun _ _ _ h => h) (Or.inl ⟨by rfl, ?_⟩) (by assumption) ?_
          rotate_left
          · intro w' hSw
            (try dsimp only at hSw)
            have n0 := hSw.1.cell 0
            have n1 := hSw.1.cell 1
            clear hSw
            go_simp
            first | rw [if_neg (by omega)] | rw [if_neg (by simp; omega)]
            try with_reducible rfl
          try simp only [Act.put, List.getElem_toArray, List.getElem_cons_zero, List.getElem_cons_succ, List.setIfInBounds_toArray, List.set_cons_zero, List.set_cons_succ]
          refine wpAnyH_take (i := 9) (oi := _) (v := ?_) rfl (by kernel_rfl) (by kernel_rfl) (by kernel_rfl) (fun _ _ _ h => h) (Or.inl ⟨by rfl, ?_⟩) (by assumption) ?_
          rotate_left
          · intro w' hSw
            (try dsimp only at hSw)
            have n0 := hSw.1.cell 0
            have n1 := hSw.1.cell 1
            clear hSw
            go_simp
            try with_reducible rfl
          try simp only [Act.put, List.getElem_toArray, List.getElem_cons_zero, List.getElem_cons_succ, List.setIfInBounds_toArray, List.set_cons_zero, List.set_cons_succ]
          refine wpAnyH_done (by kernel_rfl) ?_ _
          go_wp2_with fail
          go_meet
          exact ⟨by rw [cat_start], hbY.trans (hb3.mono hbY.size), HJY.out.below hb3 HJY.out.lt, HY.out.below hb3 HY.out.lt⟩
--R9END
        case rest =>
          clear hz1 hz2
          obtain ⟨rfl, g1, g2, g3⟩ := hcut
          have HX2 : Hid (RS j w (some ⟨b, off, none⟩) ncap bn d (.slice ia d.ins.length ic) (.slice sa d.x.args.length sc) s [d.uid, wordK d.kind] (.string (s ++ joinB [d.uid, wordK d.kind])) wc) := ⟨rfl, g1, g2, g3⟩
          clear HY HJY hbY g1 g2 g3
          have hil := HGD.out.ins
          generalize hM : d.ins.length = M at *
          have HM := Lib.hid hM
          clear hM
          go_upto_region 11 with fail
          have HSZ : Hid (∀ q, ∀ x ∈ [d.uid, wordK d.kind] ++ (d.ins.take q).map (uidAt j), x.size ≤ 400) := fun q x hx => by
            simp only [List.cons_append, List.nil_append, List.mem_cons, List.mem_map] at hx
            rcases hx with rfl | rfl | ⟨z, hz, rfl⟩
            · omega
            · omega
            · have h1 := HGD.out.insAt z (List.mem_of_mem_take hz)
              obtain ⟨zn, rfl⟩ : ∃ m : Nat, z = (m : Int) := ⟨z.toNat, by omega⟩
              rw [uidAt_nat j zn (by omega)]
              have := (HND2.out _ (List.getElem_mem (by omega : zn < j.nodes.length))).uid
              omega
          go_loopw [6, 9] (fun sv iv wr2 => RIn j w (some ⟨b, off, none⟩) ncap bn d (.slice ia M ic) (.slice sa d.x.args.length sc) s sv iv wr2) (fun _ i _ => M - (intOf i).toNat)
          case atStart => exact ⟨0, rfl, Nat.zero_le _, HX2.out⟩
          case round =>
            obtain ⟨q, rfl, hqM, hx⟩ := hrel.ex
            rw [HM.out] at hqM
            clear hrel
            obtain ⟨hst, g1, g2, g3⟩ := hx
            have hwl : ([d.uid, wordK d.kind] ++ (d.ins.take q).map (uidAt j)).length = 2 + q := by
              rw [List.length_append, List.length_map, List.length_take, HM.out, Nat.min_eq_left hqM]
              rfl
            have hjz := joinB_size _ (HSZ.out q)
            rw [hwl] at hjz
            have n2 := g3.cell 2
            have HG1 := Lib.hid g1
            have HG2 := Lib.hid g2
            have HG3 := Lib.hid g3
            have hbnl := g3.lt
            clear g1 g2 g3
            by_cases hq : q < M
            · obtain ⟨b5, o5, k5, e5, hb5, hql, c5⟩ := (HIS.out.below HG1.out).int q hq
              simp only [Value.slice.injEq, true_and] at e5
              obtain ⟨rfl, rfl⟩ := e5
              have hz := HGD.out.insAt _ (List.getElem_mem hql)
              have HTQ : Hid (d.ins.take (q + 1) = d.ins.take q ++ [d.ins[q]]) := by unfold Hid; rw [List.take_succ_eq_append_getElem hql]
              generalize d.ins[q] = z at *
              obtain ⟨zn, rfl⟩ : ∃ m : Nat, z = (m : Int) := ⟨z.toNat, by omega⟩
              rw [HN.out] at hz
              have hzN : zn < N := by omega
              have hzI0 : (0 : Int) ≤ (zn : Int) := by omega
              have hzI : (zn : Int) < (N : Int) := by omega
              have hqI : (q : Int) < (M : Int) := by omega
              have hzl : zn < j.nodes.length := by rw [HN.out]; exact hzN
              obtain ⟨b6, o6, k6, e6, hb6, hu6, _, _, c6, _⟩ := (HNS.out.keep HG1.out).at_ zn hzl
              simp only [Value.slice.injEq, Option.some.injEq, Addr.mk.injEq, and_true] at e6
              obtain ⟨⟨rfl, rfl⟩, hcl, rfl⟩ := e6
              clear hcl
              have HUZ := Lib.hid (uidAt_nat j zn hzl)
              rw [← HUZ.out] at c6 hu6
              have huz96 : (uidAt j (zn : Int)).size ≤ 96 := by rw [HUZ.out]; exact (HND2.out _ (List.getElem_mem hzl)).uid
              have HNW : Hid ([d.uid, wordK d.kind] ++ (d.ins.take (q + 1)).map (uidAt j) = ([d.uid, wordK d.kind] ++ (d.ins.take q).map (uidAt j)) ++ [uidAt j (zn : Int)]) := by
                unfold Hid
                rw [HTQ.out, List.map_append, ← List.append_assoc]
                rfl
              have HCW := Lib.hid (cat_word s ([d.uid, wordK d.kind] ++ (d.ins.take q).map (uidAt j)) (uidAt j (zn : Int)) (by rw [hwl]; omega))
              rw [← HNW.out] at HCW
              generalize uidAt j (zn : Int) = uz at *
              have j1 := HG2.out.cell 1
              rw [HN.out] at j1
              have hJ : (s ++ joinB ([d.uid, wordK d.kind] ++ (d.ins.take q).map (uidAt j))).size ≤ 63000 := by rw [ByteArray.size_append]; omega
              generalize s ++ joinB ([d.uid, wordK d.kind] ++ (d.ins.take q).map (uidAt j)) = J at *
              subst hst
              have hJ2 : (J ++ { data := #[32] } : ByteArray).size ≤ 63001 := by rw [ByteArray.size_append]; show _ + 1 ≤ 63001; omega
              clear HTQ hwl HUZ hjz
              go_upto_region 13 with fail
              go_quiet (fail)
              go_wp2_with fail
              go_roundw
              case rel =>
                refine ⟨q + 1, by go_num, by rw [HM.out]; omega, ?_⟩
                exact ⟨by rw [HCW.out], below_drewN HG1.out nq, HG2.out, HG3.out⟩
              case measure => simp [intOf]; omega
            · obtain rfl : q = M := by omega
              have htk : d.ins.take q = d.ins := List.take_of_length_le (Nat.le_of_eq HM.out)
              rw [htk] at hwl hjz hst
              have HSW := Lib.hid (HSZ.out q)
              rw [htk] at HSW
              have HHW : Hid (headW j d = ([d.uid, wordK d.kind] ++ d.ins.map (uidAt j)) ++ if d.kind = 7 then [decB d.n.toNat] else []) := rfl
              have HTW : Hid (tellW j d = headW j d ++ if hasK d.kind = true then [colS, d.x.told.1] else []) := rfl
              have n1 := HG3.out.cell 1
              have HWL := Lib.hid hwl
              generalize [d.uid, wordK d.kind] ++ d.ins.map (uidAt j) = ws at *
              have hJ : (s ++ joinB ws).size ≤ 63000 := by rw [ByteArray.size_append]; omega
              have hk1 := HGD.out.k1
              have hk9 := HGD.out.k9
              subst hst
              clear htk hwl hq hqM HSZ hjz
              have HX : Hid (RS j w (some ⟨b, off, none⟩) ncap bn d (.slice ia q ic) (.slice sa d.x.args.length sc) s ws (.string (s ++ joinB ws)) wr) := ⟨rfl, HG1.out, HG2.out, HG3.out⟩
              go_upto_if 67 with fail
              go_cut [6] (fun s6 wx => RS j w (some ⟨b, off, none⟩) ncap bn d (.slice ia q ic) (.slice sa d.x.args.length sc) s (headW j d) s6 wx)
              case first =>
                by_cases h7 : d.kind = 7
                · rw [if_pos h7] at HHW
                  have h7b : (d.kind == 7) = true := by rw [beq_iff_eq]; exact h7
                  have n6 := HG3.out.cell 6
                  obtain ⟨nn, hnn⟩ : ∃ m : Nat, d.n = (m : Int) := ⟨d.n.toNat, by have := HGD.out.n0; omega⟩
                  have hn16 : nn ≤ 16 := by have := HGD.out.n16; omega
                  have HIT : Hid (∀ w, Calls Tryz.prog 26 #[.int .i64 d.n] w fun e w' => e = .returned (.string (decB nn)) ∧ Below w.heap.size w w') := fun w => by rw [hnn]; exact digits_c nn (by omega) w
                  have hd2 := dec_size nn (by omega)
                  rw [hnn, Int.toNat_natCast] at HHW
                  have HCW := Lib.hid (cat_word s ws (decB nn) (by rw [HWL.out]; omega))
                  rw [← HHW.out] at HCW
                  generalize decB nn = dn at *
                  generalize s ++ joinB ws = J at *
                  have hJ2 : (J ++ { data := #[32] } : ByteArray).size ≤ 63001 := by rw [ByteArray.size_append]; show _ + 1 ≤ 63001; omega
                  clear hnn h7
                  go_wp2_with (go_at_call 26; refine (HIT.out _).mono ?_; rintro e w5 ⟨rfl, hb5⟩)
                  go_meet
                  rw [HCW.out]
                  have k := HX.out.keep hb5
                  exact ⟨rfl, k.below, k.job, k.node⟩
                · rw [if_neg h7] at HHW
                  have h7b : (d.kind == 7) = false := by rw [beq_eq_false_iff_ne]; exact h7
                  go_wp2_with fail
                  go_meet
                  rw [HHW.out, List.append_nil]
                  exact HX.out
              case rest =>
                obtain ⟨rfl, g1, g2, g3⟩ := hcut
                have HXh : Hid (RS j w (some ⟨b, off, none⟩) ncap bn d (.slice ia q ic) (.slice sa d.x.args.length sc) s (headW j d) (.string (s ++ joinB (headW j d))) wc) := ⟨rfl, g1, g2, g3⟩
                have hhl : 0 < (headW j d).length ∧ (headW j d).length ≤ 6 := by
                  rw [HHW.out, List.length_append, HWL.out]
                  split
                  · show 0 < 2 + q + 1 ∧ 2 + q + 1 ≤ 6; omega
                  · show 0 < 2 + q + 0 ∧ 2 + q + 0 ≤ 6; omega
                have HSH : Hid (∀ x ∈ headW j d, x.size ≤ 400) := fun x hx => by
                  rw [HHW.out, List.mem_append] at hx
                  rcases hx with hx | hx
                  · exact HSW.out x hx
                  · split at hx
                    · simp at hx
                      subst hx
                      have := dec_size d.n.toNat (by have := HGD.out.n0; have := HGD.out.n16; omega)
                      omega
                    · cases hx
                have hjz := joinB_size _ HSH.out
                clear HHW HSW HWL HX HX2 g1 g2 g3 n1 n2 hJ
                generalize headW j d = hw at *
                have HKC := Lib.hid (rhas_c d.kind wc)
                have n1 := HXh.out.node.cell 1
                have hJ : (s ++ joinB hw).size ≤ 63000 := by rw [ByteArray.size_append]; omega
                have HLN := Lib.hid (rLine_c d.x (.agg #[.int .u8 d.x.op, .int .i64 d.x.n, .slice sa d.x.args.length sc]) wc HOK.out.2.2.2.1 ⟨_, rfl, (HXS.out.keep HXh.out.below).mono HXh.out.below.size⟩)
                have htz := told_size d.x
                clear HIS HXS HOK hk1 hk9
                generalize d.x.told = td at *
                obtain ⟨t1, t2⟩ := td
                dsimp only at HLN HTD HTW htz
                go_upto_if 76 with (go_at_call 28; refine HKC.out.mono ?_; rintro e w' ⟨rfl, rfl⟩)
                go_cut [6] (fun s6 wx => RS j w (some ⟨b, off, none⟩) ncap bn d (.slice ia q ic) (.slice sa d.x.args.length sc) s (tellW j d) s6 wx ∧ ¬ (hasK d.kind = true ∧ t2 ≠ 0) ∧ (joinB (tellW j d)).size ≤ 3208)
                case first =>
                  cases hk : hasK d.kind
                  · rw [hk, if_neg (fun h => by cases h)] at HTW
                    go_wp2_with fail
                    go_meet
                    rw [HTW.out, List.append_nil]
                    exact ⟨HXh.out, (fun h => by have := hk.symm.trans h.1; cases this), by omega⟩
                  · rw [hk] at HTW HTD
                    rw [if_pos rfl] at HTW
                    have n3 := HXh.out.node.cell 3
                    have n4 := HXh.out.node.cell 4
                    have n5 := HXh.out.node.cell 5
                    have HCW := Lib.hid (cat_two s hw t1 hhl.1)
                    rw [← HTW.out] at HCW
                    have HJ3 : Hid ((joinB (tellW j d)).size ≤ 3208) := by
                      have h := congrArg ByteArray.size HCW.out
                      rw [ByteArray.size_append, ByteArray.size_append, ByteArray.size_append, ByteArray.size_append] at h
                      have h3 : ({ data := #[32, 58, 32] } : ByteArray).size = 3 := rfl
                      unfold Hid; omega
                    generalize s ++ joinB hw = J at *
                    have hJ2 : (J ++ { data := #[32, 58, 32] } : ByteArray).size ≤ 63003 := by rw [ByteArray.size_append]; show _ + 3 ≤ 63003; omega
                    go_wp2_with fail
                    refine HLN.out.mono ?_
                    rintro e w5 ⟨rfl, hb5⟩
                    have HX5 := Lib.hid (HXh.out.keep hb5)
                    clear n1 n3 n4 n5 hk
                    by_cases h2 : t2 = 0
                    · subst h2
                      go_wp2_with fail
                      go_meet
                      rw [HCW.out]
                      exact ⟨⟨rfl, HX5.out.below, HX5.out.job, HX5.out.node⟩, fun h => h.2 rfl, HJ3.out⟩
                    · have h2b : (t2 != 0) = true := by rw [bne_iff_ne]; exact h2
                      rw [if_pos ⟨trivial, h2⟩] at HTD
                      go_wp2_with fail
                      go_ret2
                      rw [HTD.out]
                      exact ⟨rfl, HX5.out.below⟩
                case rest =>
                  obtain ⟨⟨rfl, g1, g2, g3⟩, hno, hJt⟩ := hcut
                  rw [if_neg hno] at HTD
                  have HG1t := Lib.hid g1
                  have HG2t := Lib.hid g2
                  have HTS9 : Hid ((s ++ joinB (tellW j d)) ++ { data := #[10] } = s ++ (joinB (tellW j d) ++ nlS)) := by
                    unfold Hid
                    rw [ByteArray.append_assoc]
                    rfl
                  rw [← HTS9.out] at HTD
                  have HNSZ : Hid (((s ++ joinB (tellW j d)) ++ { data := #[10] } : ByteArray).size ≤ 10 + 5000 * (k + 1)) := by
                    unfold Hid
                    rw [ByteArray.size_append, ByteArray.size_append]
                    show _ + 1 ≤ _
                    omega
                  have hJ9 : (s ++ joinB (tellW j d)).size ≤ 70000 := by rw [ByteArray.size_append]; omega
                  generalize s ++ joinB (tellW j d) = J at *
                  clear hno g1 g2 g3 n1 HKC HLN HXh
                  go_wp2_with fail
                  go_roundw
                  case rel => exact ⟨k + 1, _, by go_num, by rw [HN.out]; omega, rfl, HTD.out.symm, HNSZ.out, HG2t.out, HG1t.out⟩
                  case measure => simp [intOf]; omega
      · obtain rfl : k = N := by omega
        have HTE : Hid (tj = (s, 0)) := by
          have h := HTK.out
          rw [List.drop_eq_nil_of_le (Nat.le_of_eq HN.out)] at h
          exact h.symm
        go_wp2_with fail
        go_ret2
        rw [HTE.out]
        exact ⟨rfl, hbr⟩
  · have heb : (me != 0) = true := by rw [bne_iff_ne]; exact he
    rw [if_pos he] at HTJ
    go_wp2_with fail
    go_ret2
    rw [HTJ.out]
    exact ⟨rfl, hB1⟩
end Go.Proofs.YtjbchkgkapccnaaGreatDoor
