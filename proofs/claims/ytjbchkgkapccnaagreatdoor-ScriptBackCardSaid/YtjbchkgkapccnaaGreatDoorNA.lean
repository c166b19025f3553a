/-
  The walk of script.Text.
-/
import Derived.Test.YtjbchkgkapccnaaGreatDoorMN
import Derived.Test.YtjbchkgkapccnaaGreatDoorMA
import Derived.Test.YtjbchkgkapccnaaGreatDoorMP
import Derived.Deep.RegionHeld3
import Derived.Deep.AppendLies
import Derived.Deep.CutBlock
namespace Go.Proofs.YtjbchkgkapccnaaGreatDoor
open Go.RowKit
set_option linter.unusedVariables false
set_option linter.unusedSimpArgs false

/-- What is known while a node's words are laid. -/
structure TxR (j : Jb) (w : World) (na : Option Addr) (ncap : Nat) (bn : Nat) (d : Nd) (iv sv : Value) (ws : List ByteArray) (v : Value) (wr : World) : Prop where
  below : Below w.heap.size w wr
  job : Blk wr w.heap.size 24 #[.int .i64 j.par, .slice na j.nodes.length ncap]
  node : Blk wr bn 49 #[.string d.uid, .int .u8 d.kind, iv, .int .u8 d.x.op, .int .i64 d.x.n, sv, .int .i64 d.n]
  own : wr.ownsRow (bn + 1) 9 1 v ws.length (ws.map Value.string)
  lt : w.heap.size < bn
theorem TxR.keep {j : Jb} {w wr wx : World} {na : Option Addr} {ncap bn : Nat} {d : Nd} {iv sv v : Value} {ws : List ByteArray} (h : TxR j w na ncap bn d iv sv ws v wr) (hb : Below wr.heap.size wr wx) : TxR j w na ncap bn d iv sv ws v wx :=
  ⟨h.below.trans (hb.mono h.below.size), h.job.below hb h.job.lt, h.node.below hb h.node.lt, own_keep h.own hb, h.lt⟩
/-- Behind an append. -/
theorem TxR.app {j : Jb} {w wr wx wy : World} {na : Option Addr} {ncap bn : Nat} {d : Nd} {iv sv v v2 : Value} {ws news : List ByteArray} (h : TxR j w na ncap bn d iv sv ws v wr) (hb : Below wr.heap.size wr wx) (hg : wx.grownBy wy v.ownBlock) (hown : wy.ownsRow (bn + 1) 9 1 v2 (ws.length + news.length) (ws.map Value.string ++ news.map Value.string)) :
    TxR j w na ncap bn d iv sv (ws ++ news) v2 wy := by
  have k := h.keep hb
  have hge := fun q hq => (h.own.lt q hq).1
  have hlt := h.lt
  refine ⟨k.below.grown hg k.below.size (fun q hq => by have := hge q hq; omega), k.job.grown hg (fun e => by have := hge _ e.symm; omega), k.node.grown hg (fun e => by have := hge _ e.symm; omega), ?_, hlt⟩
  rw [List.length_append, List.map_append]
  exact hown

set_option maxRecDepth 20000 in
theorem idx_word (k : Int) (h1 : 1 ≤ k) (h9 : k ≤ 9) : ∀ w, (Instr.index 52 (.agg #[.string { data := #[] }, .string { data := #[115, 111, 117, 114, 99, 101] }, .string { data := #[109, 97, 112] }, .string { data := #[102, 105, 108, 116, 101, 114] }, .string { data := #[102, 108, 97, 116] }, .string { data := #[107, 101, 121] }, .string { data := #[114, 101, 100, 117, 99, 101] }, .string { data := #[119, 105, 110, 100, 111, 119] }, .string { data := #[117, 110, 105, 111, 110] }, .string { data := #[115, 105, 110, 107] }]) (.int .u8 k)).run Tryz.prog w = .ok (.string (wordK k)) w := by
  have : k = 1 ∨ k = 2 ∨ k = 3 ∨ k = 4 ∨ k = 5 ∨ k = 6 ∨ k = 7 ∨ k = 8 ∨ k = 9 := by omega
  rcases this with rfl | rfl | rfl | rfl | rfl | rfl | rfl | rfl | rfl <;> exact fun _ => by kernel_rfl
theorem own_new2 (w : World) (base : Nat) (hb : base ≤ w.heap.size) (e : TypeId) (x y : Value) : (w.alloc (.cells #[x, y] e)).ownsRow base e 1 (.slice (some ⟨w.heap.size, 0, none⟩) 2 2) 2 [x, y] :=
  ⟨rfl, .inr ⟨w.heap.size, 2, #[x, y], rfl, hb, heap_alloc_new w _, Nat.le_refl _, show (2 : Nat) ≤ maxLen by decide, rfl, rfl⟩⟩
def uidAt (j : Jb) (z : Int) : ByteArray := (j.nodes.getD z.toNat ⟨.empty, 0, [], Ex.zero, 0⟩).uid
theorem uidAt_nat (j : Jb) (z : Nat) (h : z < j.nodes.length) : uidAt j (z : Int) = (j.nodes[z]'h).uid := by
  unfold uidAt
  rw [Int.toNat_natCast, List.getD_eq_getElem?_getD, List.getElem?_eq_getElem h, Option.getD_some]
structure InLoop (j : Jb) (w : World) (na : Option Addr) (ncap bn : Nat) (d : Nd) (iv sv : Value) (v i : Value) (wr : World) : Prop where
  ex : ∃ q : Nat, i = .int .i64 q ∧ q ≤ d.ins.length ∧ TxR j w na ncap bn d iv sv ([d.uid, wordK d.kind] ++ (d.ins.take q).map (uidAt j)) v wr
theorem dec_size : ∀ n : Nat, n < 20 → (decB n).size ≤ 2 := by decide +kernel
structure TLoop (j : Jb) (w : World) (na : Option Addr) (ncap : Nat) (tj : ByteArray × Int) (sv iv : Value) (wr : World) : Prop where
  ex : ∃ (k : Nat) (s : ByteArray), iv = .int .i64 k ∧ k ≤ j.nodes.length ∧ sv = .string s ∧ tellGo j (j.nodes.drop k) s = tj ∧ s.size ≤ 10 + 5000 * k ∧ Blk wr w.heap.size 24 #[.int .i64 j.par, .slice na j.nodes.length ncap] ∧ Below w.heap.size w wr

set_option maxRecDepth 100000 in
set_option maxHeartbeats 4000000 in
theorem Text_c (j : Jb) (vj : Value) (w : World) (hj : JbAt w w.heap.size vj j) (hok : j.ok) (hT : TB w.heap.size w) :
    Calls Tryz.prog 10 #[vj] w fun e w' => e = .returned (.tuple #[.string (tellJ j).1, .int .i64 (tellJ j).2]) ∧ Below w.heap.size w w' := by
  have HT := Lib.hid hT
  clear hT
  obtain ⟨nv, rfl, hns⟩ := hj
  obtain ⟨na, ncap, rfl, hnc, hnm⟩ := hns.slice
  have HNS := Lib.hid hns
  have hW := (Below.refl w.heap.size w).alloc (Nat.le_refl _) (.cells #[.int .i64 j.par, .slice na j.nodes.length ncap] 24)
  have HMY := Lib.hid (May_c1 j (.agg #[.int .i64 j.par, .slice na j.nodes.length ncap]) w.heap.size (w.alloc (.cells #[.int .i64 j.par, .slice na j.nodes.length ncap] 24)) ⟨_, rfl, hns.keep hW⟩ hW.size)
  have hjb := Blk.new w #[.int .i64 j.par, .slice na j.nodes.length ncap] 24
  have HG := Lib.hid (@may_good j)
  have HND := Lib.hid (@good_nd j)
  have HTJ : Hid (tellJ j = if j.may.2 ≠ 0 then (.empty, 2) else tellGo j j.nodes ((parS ++ decB j.par.toNat) ++ nlS)) := rfl
  generalize tellJ j = tj at *
  generalize j.may = mm at *
  obtain ⟨mi, me⟩ := mm
  dsimp only at HTJ HG HND
  clear hns
  go_enter Tryz.func10, Tryz.ntmps10
  go_wp2_with fail
  refine HMY.out.mono ?_
  rintro e w1 ⟨rfl, hb1⟩
  have hJ1 := hjb.below hb1 hjb.lt
  have hB1 := hW.trans (hb1.mono hW.size)
  generalize World.alloc w _ = W0 at *
  clear HMY hjb
  by_cases he : me = 0
  · subst he
    rw [if_neg (fun h => h rfl)] at HTJ
    have g := HG.out rfl
    have g1 := g.p1
    have g2 := g.p2
    have g3 := g.n2
    have HND2 := Lib.hid (HND.out rfl)
    obtain ⟨pn, hpn⟩ : ∃ k : Nat, j.par = (k : Int) := ⟨j.par.toNat, by omega⟩
    rw [hpn, Int.toNat_natCast] at HTJ
    have e0 := hJ1.cell 0
    have e1 := hJ1.cell 1
    have HIT : Hid (∀ w, Calls Tryz.prog 20 #[.int .i64 j.par] w fun e w' => e = .returned (.string (decB pn)) ∧ w' = w) := fun w => by rw [hpn]; exact Tryz.strconv_Itoa_small pn (by omega) w
    have HDS := Lib.hid (dec_size pn (by omega))
    clear HG HND g hpn
    have HTS : Hid (tellGo j (j.nodes.drop 0) (({ data := #[112, 97, 114, 32] } ++ decB pn) ++ { data := #[10] }) = tj) := HTJ.out.symm
    generalize decB pn = dp at *
    have hds : dp.size ≤ 2 := HDS.out
    have hs1 : (({ data := #[112, 97, 114, 32] } : ByteArray) ++ dp).size ≤ 6 := by rw [ByteArray.size_append]; show 4 + dp.size ≤ 6; omega
    have hs2 : (({ data := #[112, 97, 114, 32] } ++ dp) ++ { data := #[10] } : ByteArray).size ≤ 7 := by rw [ByteArray.size_append]; show _ + 1 ≤ 7; omega
    have HS2 := Lib.hid hs2
    have HJ1 := Lib.hid hJ1
    clear HTJ HDS hs2 hJ1 hb1 hW
    generalize hN : j.nodes.length = N at *
    have HN := Lib.hid hN
    clear hN
    go_upto_region 6 with (go_at_call 20; refine (HIT.out _).mono ?_; rintro e w' ⟨rfl, rfl⟩)
    clear e0 e1 HIT
    go_loopw [6, 29] (fun sv iv wr => TLoop j w na ncap tj sv iv wr) (fun _ i _ => N - (intOf i).toNat)
    case atStart => exact ⟨0, _, rfl, Nat.zero_le _, rfl, HTS.out, Nat.le_trans HS2.out (by decide), by rw [HN.out]; exact HJ1.out, hB1⟩
    case round =>
      obtain ⟨k, s, rfl, hkN, rfl, htj, hss, hjr, hbr⟩ := hrel.ex
      clear hrel
      rw [HN.out] at hkN hjr
      have HJR := Lib.hid hjr
      have HTK := Lib.hid htj
      clear hjr htj
      by_cases hlt : k < N
      · have hkl : k < j.nodes.length := by rw [HN.out]; exact hlt
        obtain ⟨b, off, cap, e0, hbl, hus, iv, sv, a0, a1, a2, a3, a4, a5, a6, hin⟩ := HNS.out.at_ k hkl
        have c0 := (hbr.cell (p := ⟨b, off + k * 7, none⟩) hbl).trans a0
        have c1 := (hbr.cell (p := ⟨b, off + k * 7 + 1, none⟩) hbl).trans a1
        have c2 := (hbr.cell (p := ⟨b, off + k * 7 + 2, none⟩) hbl).trans a2
        have c3 := (hbr.cell (p := ⟨b, off + k * 7 + 3, none⟩) hbl).trans a3
        have c4 := (hbr.cell (p := ⟨b, off + k * 7 + 4, none⟩) hbl).trans a4
        have c5 := (hbr.cell (p := ⟨b, off + k * 7 + 5, none⟩) hbl).trans a5
        have c6 := (hbr.cell (p := ⟨b, off + k * 7 + 6, none⟩) hbl).trans a6
        clear a0 a1 a2 a3 a4 a5 a6
        simp only [Value.slice.injEq] at e0
        obtain ⟨rfl, hcl, rfl⟩ := e0
        clear hcl
        have HGD := Lib.hid (HND2.out _ (List.getElem_mem hkl))
        have HOK : Hid (j.nodes[k].ok) := hok.2.2 _ (List.getElem_mem hkl)
        have HTD : Hid (tj = if hasK j.nodes[k].kind = true ∧ j.nodes[k].x.told.2 ≠ 0 then (.empty, j.nodes[k].x.told.2) else tellGo j (j.nodes.drop (k + 1)) (s ++ (joinB (tellW j j.nodes[k]) ++ nlS))) := by
          rw [← HTK.out, List.drop_eq_getElem_cons hkl]
          rfl
        generalize j.nodes[k] = d at *
        obtain ⟨hins, hxs⟩ := hin
        have HIS := Lib.hid hins
        have HXS := Lib.hid hxs
        obtain ⟨_, ia, ic, rfl, _, _, _⟩ := hins
        obtain ⟨sa, sc, rfl, _, _⟩ := hxs.slice
        clear hxs
        have hws : w.heap.size < wr.heap.size := HJR.out.lt
        have hbw : b < wr.heap.size := by omega
        have HX : Hid (TxR j w (some ⟨b, off, none⟩) ncap wr.heap.size d (.slice ia d.ins.length ic) (.slice sa d.x.args.length sc) [] (.slice none 0 0) (wr.alloc (.cells #[.string d.uid, .int .u8 d.kind, .slice ia d.ins.length ic, .int .u8 d.x.op, .int .i64 d.x.n, .slice sa d.x.args.length sc, .int .i64 d.n] 49))) :=
          ⟨hbr.alloc hbr.size _, by rw [HN.out]; exact HJR.out.alloc _, Blk.new _ _ _, World.ownsRow_nil _ _ _ _, hws⟩
        have hix : ∀ w, (Instr.index 52 (.agg #[.string { data := #[] }, .string { data := #[115, 111, 117, 114, 99, 101] }, .string { data := #[109, 97, 112] }, .string { data := #[102, 105, 108, 116, 101, 114] }, .string { data := #[102, 108, 97, 116] }, .string { data := #[107, 101, 121] }, .string { data := #[114, 101, 100, 117, 99, 101] }, .string { data := #[119, 105, 110, 100, 111, 119] }, .string { data := #[117, 110, 105, 111, 110] }, .string { data := #[115, 105, 110, 107] }]) (.int .u8 d.kind)).run Tryz.prog w = .ok (.string (wordK d.kind)) w := idx_word d.kind HGD.out.k1 HGD.out.k9
        go_upto_region 8 with fail
        generalize World.alloc wr _ = W1 at *
        generalize wr.heap.size = bn at *
        clear c0 c1 c2 c3 c4 c5 c6
        go_cut [9] (fun s9 wx => TxR j w (some ⟨b, off, none⟩) ncap bn d (.slice ia d.ins.length ic) (.slice sa d.x.args.length sc) [d.uid, wordK d.kind] s9 wx)
        case first =>
--R8
          refine wp_region_held_drew (S := (fun w' => TxR j w (some ⟨b, off, none⟩) ncap bn d (.slice ia d.ins.length ic) (.slice sa d.x.args.length sc) [] (.slice none 0 0) w')) (by kernel_rfl) ?_ (fun hHeld => ?_)
          · exact HX.out.keep ((Below.refl _ _).drew)
          refine wpAnyH_take (i := 0) (oi := _) (v := ?_) rfl (by kernel_rfl) (by kernel_rfl) (by kernel_rfl) (fun _ _ _ h => h) (Or.inl ⟨by rfl, ?_⟩) (by assumption) ?_
          rotate_left
          · intro w' hSw
            (try dsimp only at hSw)
            have n0 := hSw.node.cell 0
            have n1 := hSw.node.cell 1
            clear hSw
            go_simp
            try with_reducible rfl
          try simp only [Act.put, List.getElem_toArray, List.getElem_cons_zero, List.setIfInBounds_toArray, List.set_cons_zero, List.set_cons_succ]
          refine wpAnyH_take (i := 1) (oi := _) (v := ?_) rfl (by kernel_rfl) (by kernel_rfl) (by kernel_rfl) (fun _ _ _ h => h) (Or.inl ⟨by rfl, ?_⟩) (by assumption) ?_
          rotate_left
          · intro w' hSw
            (try dsimp only at hSw)
            have n0 := hSw.node.cell 0
            have n1 := hSw.node.cell 1
            clear hSw
            go_simp
            try with_reducible rfl
          try simp only [Act.put, List.getElem_toArray, List.getElem_cons_zero, List.getElem_cons_succ, List.setIfInBounds_toArray, List.set_cons_zero, List.set_cons_succ]
          refine wpAnyH_take (i := 3) (oi := _) (v := ?_) rfl (by kernel_rfl) (by kernel_rfl) (by kernel_rfl) (fun _ _ _ h => h) (Or.inl ⟨by rfl, ?_⟩) (by assumption) ?_
          rotate_left
          · intro w' hSw
            (try dsimp only at hSw)
            have n0 := hSw.node.cell 0
            have n1 := hSw.node.cell 1
            clear hSw
            go_simp
            try with_reducible rfl
          try simp only [Act.put, List.getElem_toArray, List.getElem_cons_zero, List.getElem_cons_succ, List.setIfInBounds_toArray, List.set_cons_zero, List.set_cons_succ]
          refine wpAnyH_take (i := 4) (oi := _) (v := ?_) rfl (by kernel_rfl) (by kernel_rfl) (by kernel_rfl) (fun _ _ _ h => h) (Or.inl ⟨by rfl, ?_⟩) (by assumption) ?_
          rotate_left
          · intro w' hSw
            (try dsimp only at hSw)
            have n0 := hSw.node.cell 0
            have n1 := hSw.node.cell 1
            clear hSw
            go_simp
            try with_reducible rfl
          try simp only [Act.put, List.getElem_toArray, List.getElem_cons_zero, List.getElem_cons_succ, List.setIfInBounds_toArray, List.set_cons_zero, List.set_cons_succ]
          refine wpAnyH_ready (rs := [2]) (by kernel_rfl) (by simp) ?_
          refine AllReadyH.cons rfl (fun K hK => ?_) AllReadyH.nil
          go_simp
          go_at_call 21
          refine (kwords_c _).mono ?_
          rintro e w2 ⟨rfl, hb2⟩
          have hx2 := (HX.out.keep ((Below.refl _ _).drew)).keep hb2
          refine hK.out _ _ ?_ (fun hHeld => ?_)
          · exact hx2
          clear hK K
          try simp only [Act.put, List.getElem_toArray, List.getElem_cons_zero, List.getElem_cons_succ, List.setIfInBounds_toArray, List.set_cons_zero, List.set_cons_succ]
          refine wpAnyH_take (i := 5) (oi := _) (v := ?_) rfl (by kernel_rfl) (by kernel_rfl) (by kernel_rfl) (fun _ _ _ h => h) (Or.inl ⟨by rfl, ?_⟩) (by assumption) ?_
          rotate_left
          · intro w' hSw
            (try dsimp only at hSw)
            have n0 := hSw.node.cell 0
            have n1 := hSw.node.cell 1
            clear hSw
            go_simp
            try with_reducible rfl
          try simp only [Act.put, List.getElem_toArray, List.getElem_cons_zero, List.getElem_cons_succ, List.setIfInBounds_toArray, List.set_cons_zero, List.set_cons_succ]
          refine wpAnyH_ready (rs := [6]) (by kernel_rfl) (by simp) ?_
          refine AllReadyH.cons rfl (fun K hK => ?_) AllReadyH.nil
          go_simp
          have hown2 : (w2.alloc (.cells #[.string d.uid, .string (wordK d.kind)] 9)).ownsRow (bn + 1) 9 1 (.slice (some ⟨w2.heap.size, 0, none⟩) 2 2) 2 [.string d.uid, .string (wordK d.kind)] := own_new2 w2 (bn + 1) (by have := hx2.node.lt; omega) _ _ _
          have hx3 := hx2.keep ((Below.refl w2.heap.size w2).alloc (Nat.le_refl _) (.cells #[.string d.uid, .string (wordK d.kind)] 9))
          refine hK.out _ _ ?_ (fun hHeld => ?_)
          · exact hx3
          clear hK K
          try simp only [Act.put, List.getElem_toArray, List.getElem_cons_zero, List.getElem_cons_succ, List.setIfInBounds_toArray, List.set_cons_zero, List.set_cons_succ]
          refine wpAnyH_take (i := 7) (oi := _) (v := ?_) rfl (by kernel_rfl) (by kernel_rfl) (by kernel_rfl) (fun _ _ _ h => h) (Or.inl ⟨by rfl, ?_⟩) (by assumption) ?_
          rotate_left
          · intro w' hSw
            (try dsimp only at hSw)
            have n0 := hSw.node.cell 0
            have n1 := hSw.node.cell 1
            clear hSw
            go_simp
            try with_reducible rfl
          try simp only [Act.put, List.getElem_toArray, List.getElem_cons_zero, List.getElem_cons_succ, List.setIfInBounds_toArray, List.set_cons_zero, List.set_cons_succ]
          refine wpAnyH_done (by kernel_rfl) ?_ _
          go_wp2_with fail
          go_meet
          exact ⟨hx3.below, hx3.job, hx3.node, hown2, hx3.lt⟩
--R8END
        case rest =>
          have HX2 := Lib.hid hcut
          clear hcut HX hix
          have n2 := HX2.out.node.cell 2
          obtain ⟨s0, si, sz0, sz1, sz2⟩ := info_parts info_strN
          have hil := HGD.out.ins
          generalize hM : d.ins.length = M at *
          have HM := Lib.hid hM
          clear hM
          go_upto_region 10 with fail
          clear n2
          go_loopw [9, 43] (fun sv iv wr2 => InLoop j w (some ⟨b, off, none⟩) ncap bn d (.slice ia M ic) (.slice sa d.x.args.length sc) sv iv wr2) (fun _ i _ => M - (intOf i).toNat)
          case atStart => exact ⟨0, rfl, Nat.zero_le _, HX2.out⟩
          case round =>
            obtain ⟨q, rfl, hqM, hx⟩ := hrel.ex
            rw [HM.out] at hqM
            clear hrel
            have HXq := Lib.hid hx
            have hbn := hx.node.lt
            clear hx
            by_cases hq : q < M
            · obtain ⟨b5, o5, k5, e5, hb5, hql, c5⟩ := (HIS.out.below HXq.out.below).int q hq
              simp only [Value.slice.injEq, true_and] at e5
              obtain ⟨rfl, rfl⟩ := e5
              have hz := HGD.out.insAt _ (List.getElem_mem hql)
              have HTQ : Hid (d.ins.take (q + 1) = d.ins.take q ++ [d.ins[q]]) := by unfold Hid; rw [List.take_succ_eq_append_getElem hql]
              generalize d.ins[q] = z at *
              obtain ⟨zn, rfl⟩ : ∃ m : Nat, z = (m : Int) := ⟨z.toNat, by omega⟩
              rw [HN.out] at hz
              have hzN : zn < N := by omega
              have hzl : zn < j.nodes.length := by rw [HN.out]; exact hzN
              obtain ⟨b6, o6, k6, e6, hb6, hu6, _, _, c6, _⟩ := (HNS.out.keep HXq.out.below).at_ zn hzl
              simp only [Value.slice.injEq, Option.some.injEq, Addr.mk.injEq, and_true] at e6
              obtain ⟨⟨rfl, rfl⟩, hcl, rfl⟩ := e6
              clear hcl
              have HUZ := Lib.hid (uidAt_nat j zn hzl)
              rw [← HUZ.out] at c6 hu6
              generalize uidAt j (zn : Int) = uz at *
              have j1 := HXq.out.job.cell 1
              have hwl : ([d.uid, wordK d.kind] ++ (d.ins.take q).map (uidAt j)).length = 2 + q := by simp [List.length_take]; rw [Nat.min_eq_left]; omega; rw [HM.out]; exact hqM
              rw [HN.out] at j1
              have HWL := Lib.hid hwl
              have HNW : Hid ([d.uid, wordK d.kind] ++ (d.ins.take (q + 1)).map (uidAt j) = ([d.uid, wordK d.kind] ++ (d.ins.take q).map (uidAt j)) ++ [uz]) := by
                unfold Hid
                rw [HTQ.out, List.map_append, ← List.append_assoc]
                show _ ++ [uidAt j (zn : Int)] = _
                rw [uidAt_nat j zn hzl, ← HUZ.out]
              generalize [d.uid, wordK d.kind] ++ (d.ins.take q).map (uidAt j) = ws at *
              clear HTQ hwl HUZ
              have hwl8 : ws.length ≤ 8 := by rw [HWL.out]; omega
              go_wp2_with (at_builtin; refine wpList_append_lies _ rfl _ _ _ rfl (bn + 1) 9 s0 (.string { data := #[] }) 1 16 Tryz.underlying38 si sz0 sz1 sz2 rfl (by decide) u9 ws.length (ws.map Value.string) rfl (HXq.out.own.alloc _) ⟨wr.heap.size, 0, none⟩ 1 1 [.string uz] rfl rfl (cell_one_newJ _ _ _) (by simp [Value.oneCell']) (by decide) (by unfold maxLen; omega) (by omega) (by simp; omega) _ rfl ?_; intro g capg w3 hown3 hg3 hat3 hlt3)
              go_roundw
              case rel =>
                refine ⟨q + 1, by go_num, by rw [HM.out]; omega, ?_⟩
                rw [HNW.out]
                exact HXq.out.app (news := [uz]) ((Below.refl _ _).alloc (Nat.le_refl _) _) hg3 hown3
              case measure => simp [intOf]; omega
            · obtain rfl : q = M := by omega
              rw [List.take_of_length_le (Nat.le_of_eq HM.out)] at HXq
              have hwl : ([d.uid, wordK d.kind] ++ d.ins.map (uidAt j)).length = 2 + q := by rw [List.length_append, List.length_map, HM.out]; rfl
              have HHW : Hid (headW j d = ([d.uid, wordK d.kind] ++ d.ins.map (uidAt j)) ++ if d.kind = 7 then [decB d.n.toNat] else []) := rfl
              have HTW : Hid (tellW j d = headW j d ++ if hasK d.kind = true then [colS, d.x.told.1] else []) := rfl
              have HSZ : Hid (∀ x ∈ [d.uid, wordK d.kind] ++ d.ins.map (uidAt j), x.size ≤ 400) := fun x hx => by
                simp only [List.cons_append, List.nil_append, List.mem_cons, List.mem_map] at hx
                rcases hx with rfl | rfl | ⟨z, hz, rfl⟩
                · have := HGD.out.uid; omega
                · have := wordK_size d.kind HGD.out.k1 HGD.out.k9; omega
                · have h1 := HGD.out.insAt z hz
                  obtain ⟨zn, rfl⟩ : ∃ m : Nat, z = (m : Int) := ⟨z.toNat, by omega⟩
                  rw [uidAt_nat j zn (by omega)]
                  have := (HND2.out _ (List.getElem_mem (by omega : zn < j.nodes.length))).uid
                  omega
              have n1 := HXq.out.node.cell 1
              have HWL := Lib.hid hwl
              generalize [d.uid, wordK d.kind] ++ d.ins.map (uidAt j) = ws at *
              have hwl8 : ws.length ≤ 8 := by rw [HWL.out]; omega
              clear hwl hq hqM
              have hk1 := HGD.out.k1
              have hk9 := HGD.out.k9
              go_upto_if 59 with fail
              go_cut [9] (fun s9 wx => TxR j w (some ⟨b, off, none⟩) ncap bn d (.slice ia q ic) (.slice sa d.x.args.length sc) (headW j d) s9 wx)
              case first =>
                by_cases h7 : d.kind = 7
                · rw [if_pos h7] at HHW
                  have h7b : (d.kind == 7) = true := by rw [beq_iff_eq]; exact h7
                  have n6 := HXq.out.node.cell 6
                  obtain ⟨nn, hnn⟩ : ∃ m : Nat, d.n = (m : Int) := ⟨d.n.toNat, by have := HGD.out.n0; omega⟩
                  have hn16 : nn ≤ 16 := by have := HGD.out.n16; omega
                  have HIT : Hid (∀ w, Calls Tryz.prog 20 #[.int .i64 d.n] w fun e w' => e = .returned (.string (decB nn)) ∧ w = w') := fun w => by rw [hnn]; exact (Tryz.strconv_Itoa_small nn (by omega) w).mono (fun _ _ h => ⟨h.1, h.2.symm⟩)
                  rw [hnn, Int.toNat_natCast] at HHW
                  generalize decB nn = dn at *
                  clear hnn h7
                  go_wp2_with (first | (go_at_call 20; refine (HIT.out _).mono ?_; rintro e w' ⟨rfl, rfl⟩) | (at_builtin; refine wpList_append_lies _ rfl _ _ _ rfl (bn + 1) 9 s0 (.string { data := #[] }) 1 16 Tryz.underlying38 si sz0 sz1 sz2 rfl (by decide) u9 ws.length (ws.map Value.string) rfl (HXq.out.own.alloc _) ⟨wr.heap.size, 0, none⟩ 1 1 [.string dn] rfl rfl (cell_one_newJ _ _ _) (by simp [Value.oneCell']) (by decide) (by unfold maxLen; omega) (by omega) (by simp; omega) _ rfl ?_; intro g capg w3 hown3 hg3 hat3 hlt3))
                  go_meet
                  rw [HHW.out]
                  exact HXq.out.app (news := [dn]) ((Below.refl _ _).alloc (Nat.le_refl _) _) hg3 hown3
                · rw [if_neg h7] at HHW
                  have h7b : (d.kind == 7) = false := by rw [beq_eq_false_iff_ne]; exact h7
                  go_wp2_with fail
                  go_meet
                  rw [HHW.out, List.append_nil]
                  exact HXq.out
              case rest =>
                clear n1
                have HXh := Lib.hid hcut
                have hhl : (headW j d).length ≤ 6 := by
                  rw [HHW.out, List.length_append, HWL.out]
                  split
                  · show 2 + q + 1 ≤ 6; omega
                  · show 2 + q + 0 ≤ 6; omega
                have hhp : 0 < (headW j d).length := by
                  rw [HHW.out, List.length_append, HWL.out]
                  omega
                have HSH : Hid (∀ x ∈ headW j d, x.size ≤ 400) := fun x hx => by
                  rw [HHW.out, List.mem_append] at hx
                  rcases hx with hx | hx
                  · exact HSZ.out x hx
                  · split at hx
                    · simp at hx
                      subst hx
                      have := dec_size d.n.toNat (by have := HGD.out.n0; have := HGD.out.n16; omega)
                      omega
                    · cases hx
                clear hcut HHW HSZ HWL hwl8 HXq HX2
                generalize headW j d = hw at *
                have HKC := Lib.hid (hasK_c d.kind wc)
                have n1 := HXh.out.node.cell 1
                have hbc := HXh.out.node.lt
                have HOX : Hid d.x.ok := HOK.out.2.2.2.1
                have HLN := Lib.hid (Line_c d.x (.agg #[.int .u8 d.x.op, .int .i64 d.x.n, .slice sa d.x.args.length sc]) wc HOX.out ⟨_, rfl, (HXS.out.keep HXh.out.below).mono HXh.out.below.size⟩ ((HT.out.below HXh.out.below).mono HXh.out.below.size))
                have htz := told_size d.x
                clear HIS HXS HOK HOX hk1 hk9
                generalize d.x.told = td at *
                obtain ⟨t1, t2⟩ := td
                dsimp only at HLN HTD HTW htz
                go_upto_if 68 with (go_at_call 22; refine HKC.out.mono ?_; rintro e w' ⟨rfl, rfl⟩)
                go_cut [9] (fun s9 wx => TxR j w (some ⟨b, off, none⟩) ncap bn d (.slice ia q ic) (.slice sa d.x.args.length sc) (tellW j d) s9 wx ∧ ¬ (hasK d.kind = true ∧ t2 ≠ 0))
                case first =>
                  cases hk : hasK d.kind
                  · rw [hk, if_neg (fun h => by cases h)] at HTW
                    go_wp2_with fail
                    go_meet
                    rw [HTW.out, List.append_nil]
                    exact ⟨HXh.out, fun h => by have := hk.symm.trans h.1; cases this⟩
                  · rw [hk] at HTW HTD
                    rw [if_pos rfl] at HTW
                    have n3 := HXh.out.node.cell 3
                    have n4 := HXh.out.node.cell 4
                    have n5 := HXh.out.node.cell 5
                    go_wp2_with fail
                    refine HLN.out.mono ?_
                    rintro e w5 ⟨rfl, hb5⟩
                    have HX5 := Lib.hid (HXh.out.keep hb5)
                    clear n1 n3 n4 n5 hk
                    by_cases h2 : t2 = 0
                    · subst h2
                      have hbn5 := HX5.out.node.lt
                      have hnews : ∀ q u, [Value.string { data := #[58] }, .string t1][q]? = some u → (w5.alloc (.cells #[.string { data := #[58] }, .string t1] 9)).cell? ((⟨w5.heap.size, 0, none⟩ : Addr).add q) = some u := World.news_of_block (Blk.new w5 #[.string { data := #[58] }, .string t1] 9)
                      have HNE := Lib.hid hnews
                      clear hnews
                      go_wp2_with (at_builtin; refine wpList_append_lies _ rfl _ _ _ rfl (bn + 1) 9 s0 (.string { data := #[] }) 1 16 Tryz.underlying38 si sz0 sz1 sz2 rfl (by decide) u9 hw.length (hw.map Value.string) rfl (HX5.out.own.alloc _) ⟨w5.heap.size, 0, none⟩ 2 2 [.string { data := #[58] }, .string t1] rfl rfl HNE.out (by simp [Value.oneCell']) (by decide) (by unfold maxLen; omega) (by omega) (by simp; omega) _ rfl ?_; intro g capg w3 hown3 hg3 hat3 hlt3)
                      go_meet
                      rw [HTW.out]
                      exact ⟨HX5.out.app (news := [colS, t1]) ((Below.refl _ _).alloc (Nat.le_refl _) _) hg3 hown3, fun h => h.2 rfl⟩
                    · have h2b : (t2 != 0) = true := by rw [bne_iff_ne]; exact h2
                      rw [if_pos ⟨trivial, h2⟩] at HTD
                      go_wp2_with fail
                      go_ret2
                      rw [HTD.out]
                      exact ⟨rfl, HX5.out.below⟩
                case rest =>
                  obtain ⟨hx, hno⟩ := hcut
                  rw [if_neg hno] at HTD
                  have HXt := Lib.hid hx
                  clear hx hno n1 HKC HLN HXh
                  have HST : Hid (∀ x ∈ tellW j d, x.size ≤ 400) := fun x hx => by
                    rw [HTW.out, List.mem_append] at hx
                    rcases hx with hx | hx
                    · exact HSH.out x hx
                    · split at hx
                      · simp at hx
                        rcases hx with rfl | rfl
                        · decide
                        · exact htz
                      · cases hx
                  have htl : 0 < (tellW j d).length ∧ (tellW j d).length ≤ 8 := by
                    rw [HTW.out, List.length_append]
                    split
                    · show 0 < hw.length + 2 ∧ hw.length + 2 ≤ 8; omega
                    · show 0 < hw.length + 0 ∧ hw.length + 0 ≤ 8; omega
                  have hjs : (joinB (tellW j d)).size ≤ 3208 := Nat.le_trans (joinB_size _ HST.out) (by omega)
                  clear HTW HSH HST htz hhp hhl
                  generalize hTW : tellW j d = tw at *
                  clear hTW
                  obtain ⟨g, cap, hu9, hge, hgl⟩ := HXt.out.own.form htl.1
                  subst hu9
                  have hcp : tw.length ≤ cap := by
                    rcases HXt.out.own.2 with ⟨h, _⟩ | ⟨_, _, _, h, _, _, h2, _⟩
                    · cases h
                    · simp only [Value.slice.injEq, true_and] at h
                      rw [h.2]; exact h2
                  have HJO : Hid (Calls Tryz.prog 24 #[.slice (some ⟨g, 0, none⟩) tw.length cap, .string { data := #[32] }] wc fun e w' => e = .returned (.string (joinB tw)) ∧ Below wc.heap.size wc w') :=
                    Tryz.strings_Join g 0 cap tw { data := #[32] } wc (fun q x hq => by
                      have hql : q < tw.length := (List.getElem?_eq_some_iff.1 hq).1
                      rw [Nat.zero_add, HXt.out.own.cellAt q (by omega), List.getElem?_map, hq]
                      rfl) hgl (by omega) hcp (by
                      have := hjs
                      unfold joinB at this
                      rw [ba_size] at this
                      exact Nat.le_trans this (by decide))
                  have hns : (joinB tw ++ { data := #[10] } : ByteArray).size ≤ 3209 := by rw [ByteArray.size_append]; show _ + 1 ≤ 3209; omega
                  have HNSZ : Hid ((s ++ (joinB tw ++ { data := #[10] })).size ≤ 10 + 5000 * (k + 1)) := by unfold Hid; rw [ByteArray.size_append]; omega
                  generalize joinB tw = jn at *
                  have hs60 : s.size ≤ 100000 := by omega
                  go_wp2_with (go_at_call 24; refine HJO.out.mono ?_; rintro e w5 ⟨rfl, hb5⟩)
                  go_roundw
                  case rel => exact ⟨k + 1, _, by go_num, by rw [HN.out]; omega, rfl, HTD.out.symm, HNSZ.out, (HXt.out.keep hb5).job, (HXt.out.keep hb5).below⟩
                  case measure => simp [intOf]; omega
      · obtain rfl : k = N := by omega
        have HTE : Hid (tj = (s, 0)) := by
          have h := HTK.out
          rw [List.drop_eq_nil_of_le (Nat.le_of_eq HN.out)] at h
          exact h.symm
        go_wp2_with fail
        go_ret2
        rw [HTE.out]
        exact ⟨rfl, hbr⟩
  · have heb : (me != 0) = true := by rw [bne_iff_ne]; exact he
    rw [if_pos he] at HTJ
    go_wp2_with fail
    go_ret2
    rw [HTJ.out]
    exact ⟨rfl, hB1⟩
end Go.Proofs.YtjbchkgkapccnaaGreatDoor
