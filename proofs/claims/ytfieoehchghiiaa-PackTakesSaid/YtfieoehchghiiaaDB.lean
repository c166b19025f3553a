/-
  The walks of ref14.Take and of PackTakes.
-/
import Derived.Test.YtfieoehchghiiaaDA
import Derived.Test.YtfieoehchghiiaaD5
import Derived.Test.YtfieoehchghiiaaCC
import Derived.Test.YtfieoehchghiiaaJ10
import Derived.Deep.CutBlock
namespace Go.Proofs.Ytfieoehchghiiaa
open Go.RowKit
set_option linter.unusedVariables false
set_option linter.unusedSimpArgs false

/-- What is known while nodes are read. -/
structure TJR (w wx : World) (B0 : Nat) (q : Rd) (par : Int) (jv : Value) : Prop where
  below : Below w.heap.size w wx
  t : RT wx (w.heap.size + 1) q
  r : Blk wx w.heap.size 24 #[.int .i64 0, .slice none 0 0]
  j : Blk wx (w.heap.size + 1 + 1) 24 #[.int .i64 par, jv]
  big : B0 ≤ wx.heap.size
theorem TJR.step {w wx wy : World} {B0 : Nat} {q q' : Rd} {par : Int} {jv : Value} (h : TJR w wx B0 q par jv) (hf : Fr (FrT (w.heap.size + 1)) wx wy) (hp : RT wy (w.heap.size + 1) q') : TJR w wy B0 q' par jv :=
  ⟨h.below.trans (hf.below h.below.size (fun k hk q => by unfold FrT at q; omega)), hp, h.r.fr hf (fun q => by unfold FrT at q; omega), h.j.fr hf (fun q => by unfold FrT at q; omega), Nat.le_trans h.big hf.size⟩
theorem TJR.keepB {w wx wy : World} {B0 B : Nat} {q : Rd} {par : Int} {jv : Value} (h : TJR w wx B0 q par jv) (h1 : (w.heap.size + 1 + 1) < B)
    (ho : wy.os = wx.os) (ht : wy.tape = wx.tape) (hu : wy.output = wx.output) (hs : wx.heap.size ≤ wy.heap.size) (hk : ∀ b, b < B → wy.heap[b]? = wx.heap[b]?) : TJR w wy B0 q par jv :=
  ⟨⟨ho.trans h.below.os, ht.trans h.below.tape, hu.trans h.below.output, Nat.le_trans h.below.size hs, fun b hb => (hk b (by omega)).trans (h.below.block b hb)⟩, Blk.same h.t (hk _ (by omega)), h.r.same (hk _ (by omega)), h.j.same (hk _ (by omega)), Nat.le_trans h.big hs⟩
theorem TJR.setJ {w wx : World} {B0 : Nat} {q : Rd} {par : Int} {jv : Value} (h : TJR w wx B0 q par jv) (u : Value) : TJR w (wx.setCell ⟨(w.heap.size + 1 + 1), 1, none⟩ u) B0 q par u :=
  ⟨h.below.setCell (p := ⟨(w.heap.size + 1 + 1), 1, none⟩) (by show _ ≤ (w.heap.size + 1 + 1); omega) u, h.t.other (a := ⟨(w.heap.size + 1 + 1), 1, none⟩) (by show _ ≠ (w.heap.size + 1 + 1); omega) u, h.r.other (p := ⟨(w.heap.size + 1 + 1), 1, none⟩) (by show _ ≠ (w.heap.size + 1 + 1); omega) u, h.j.set 1 u, by simpa using h.big⟩
theorem TJR.keep {w wx wy : World} {B0 : Nat} {q : Rd} {par : Int} {jv : Value} (h : TJR w wx B0 q par jv) (hf : Below wx.heap.size wx wy) : TJR w wy B0 q par jv :=
  h.step (Fr.of_new hf) (h.t.fr (Fr.of_new (S := fun _ => False) hf) id)
theorem NRow.frT {B0 bt : Nat} {wx wy : World} {l : List Nd} {av : Value} {cs : List Value} {ivs svs : Nat → Value} (h : NRow B0 wx l av cs ivs svs) (hf : Fr (FrT bt) wx wy) (h1 : bt < B0) : NRow B0 wy l av cs ivs svs :=
  h.keepB hf.size fun b hb hlt => hf.block b hlt (fun q => by unfold FrT at q; omega)
theorem rjb_good {s : ByteArray} (he : (Rd.rjb s).2.e = 0) : (Rd.rjb s).1.ok ∧ (∀ d ∈ (Rd.rjb s).1.nodes, d.uid.size ≤ 1000000) := by
  obtain ⟨h1, h2⟩ := rjb_alike s
  rw [h1] at he
  obtain ⟨q1, q2, _⟩ := jb_bck s he
  rw [h2 he]
  exact ⟨q1, fun d hd => Nat.le_trans (q2 d hd) (by decide)⟩
theorem rNds_len : ∀ (m : Nat) (p : Rd), (rNds m p).1.length ≤ m
  | 0, p => Nat.le_refl _
  | m + 1, p => by
    simp only [rNds]
    split
    · exact Nat.zero_le _
    · have := rNds_len m p.rnd.2
      simp only [List.length_cons]
      omega
theorem rjb_len (s : ByteArray) : (Rd.rjb s).1.nodes.length ≤ 1000 := by
  have h := rNds_len ((Rd.num ⟨s, 0⟩).2.win 12 3).1.toNat ((Rd.num ⟨s, 0⟩).2.win 12 3).2
  have h2 := win_ir 12 3 (by decide) (Rd.num ⟨s, 0⟩).2
  have e : (Rd.rjb s).1.nodes = (rNds ((Rd.num ⟨s, 0⟩).2.win 12 3).1.toNat ((Rd.num ⟨s, 0⟩).2.win 12 3).2).1 := rfl
  rw [e]
  omega

set_option maxRecDepth 100000 in
set_option maxHeartbeats 8000000 in
theorem rTake14_c (s : ByteArray) (hs : s.size ≤ 140737488355328) (w : World) : Calls Try.prog 21 #[.string s] w (TakeJPost s w) := by
  unfold TakeJPost
  have HTJ := Lib.hid (takeJ_ref s)
  have HGD := Lib.hid (fun h => rjb_good (s := s) h)
  have HLN := Lib.hid (rjb_len s)
  have hr0 := (((Blk.new w #[.int .i64 0, .slice none 0 0] 24).alloc (.cells #[.string s, .int .i64 0] 85)).alloc (.cells #[.int .i64 0, .slice none 0 0] 24))
  have ht0 : RT (((w.alloc (.cells #[.int .i64 0, .slice none 0 0] 24)).alloc (.cells #[.string s, .int .i64 0] 85)).alloc (.cells #[.int .i64 0, .slice none 0 0] 24)) (w.heap.size + 1) ⟨s, 0⟩ := Blk.alloc (Blk.new_at _ _ _ (by simp)) _
  have hj0 : Blk (((w.alloc (.cells #[.int .i64 0, .slice none 0 0] 24)).alloc (.cells #[.string s, .int .i64 0] 85)).alloc (.cells #[.int .i64 0, .slice none 0 0] 24)) (w.heap.size + 1 + 1) 24 #[.int .i64 0, .slice none 0 0] := Blk.new_at _ _ _ (by simp)
  have hB0 : Below w.heap.size w (((w.alloc (.cells #[.int .i64 0, .slice none 0 0] 24)).alloc (.cells #[.string s, .int .i64 0] 85)).alloc (.cells #[.int .i64 0, .slice none 0 0] 24)) := (((Below.refl _ w).alloc (Nat.le_refl _) _).alloc (by simp) _).alloc (by simp; omega) _
  have hT0 : TJR w (((w.alloc (.cells #[.int .i64 0, .slice none 0 0] 24)).alloc (.cells #[.string s, .int .i64 0] 85)).alloc (.cells #[.int .i64 0, .slice none 0 0] 24)) 0 ⟨s, 0⟩ 0 (.slice none 0 0) := ⟨hB0, ht0, hr0, hj0, Nat.zero_le _⟩
  clear hr0 ht0 hj0 hB0
  go_enter Try.func21, Try.ntmps21
  go_upto_region 3 with fail
  generalize World.alloc (World.alloc (World.alloc w _) _) _ = W at *
  go_wp2_with fail
  refine (tnumber_c _ _ hs W hT0.t).mono ?_
  rintro e w1 ⟨rfl, h1, f1⟩
  have hs1 := Nat.le_trans (Rd.num_size ⟨s, 0⟩) hs
  have HJB : Hid (Rd.rjb s = (⟨(Rd.num ⟨s, 0⟩).1, (rNds ((Rd.num ⟨s, 0⟩).2.win 12 3).1.toNat ((Rd.num ⟨s, 0⟩).2.win 12 3).2).1⟩, (rNds ((Rd.num ⟨s, 0⟩).2.win 12 3).1.toNat ((Rd.num ⟨s, 0⟩).2.win 12 3).2).2)) := rfl
  generalize Rd.num ⟨s, 0⟩ = q1 at *
  have hT1 := hT0.step f1 h1
  clear hT0 h1 f1
  have z0 := hT1.j.free 0
  have c0 := hT1.j.cell 0
  go_upto_region 4 with fail
  have hT : TJR w (w1.setCell ⟨(w.heap.size + 1 + 1), 0, none⟩ (.int .i64 q1.1)) 0 q1.2 q1.1 (.slice none 0 0) :=
    ⟨hT1.below.setCell (p := ⟨(w.heap.size + 1 + 1), 0, none⟩) (by show _ ≤ (w.heap.size + 1 + 1); omega) _, hT1.t.other (a := ⟨(w.heap.size + 1 + 1), 0, none⟩) (by show _ ≠ (w.heap.size + 1 + 1); omega) _, hT1.r.other (p := ⟨(w.heap.size + 1 + 1), 0, none⟩) (by show _ ≠ (w.heap.size + 1 + 1); omega) _, hT1.j.set 0 _, Nat.zero_le _⟩
  generalize w1.setCell ⟨(w.heap.size + 1 + 1), 0, none⟩ (.int .i64 q1.1) = W1 at *
  clear z0 c0 hT1
  go_wp2_with fail
  refine (twithin_c _ 12 3 q1.2 hs1 W1 hT.t).mono ?_
  rintro e w2 ⟨rfl, h2, f2⟩
  have hs2 := Nat.le_trans (win_size 12 3 q1.2) hs1
  have hml := win_ir 12 3 (by omega) q1.2
  generalize q1.2.win 12 3 = q2 at *
  obtain ⟨m, q2⟩ := q2
  obtain ⟨mm, rfl⟩ : ∃ mm : Nat, m = (mm : Int) := ⟨m.toNat, by have := hml.1; dsimp only at this; omega⟩
  dsimp only at HJB h2 hs2 hml
  rw [Int.toNat_natCast] at HJB
  have hT2 := hT.step f2 h2
  clear hT h2 f2
  have hjl := hT2.j.lt
  have hT3 : TJR w w2 w2.heap.size q2 q1.1 (.slice none 0 0) := ⟨hT2.below, hT2.t, hT2.r, hT2.j, Nat.le_refl _⟩
  have hN := NRow.nil w2.heap.size w2 (fun _ => undef) (fun _ => undef)
  generalize hB0 : w2.heap.size = B0 at hjl hT3 hN
  clear hT2 hB0
  go_upto_block 0 with fail
  go_cut [] (fun wx => ∃ (av : Value) (cs : List Value) (ivs svs : Nat → Value), TJR w wx B0 (Rd.rjb s).2 q1.1 av ∧ NRow B0 wx (Rd.rjb s).1.nodes av cs ivs svs)
  case rest =>
    obtain ⟨av, cs, ivs, svs, hTc, hNc⟩ := hcut
    obtain ⟨a, cap, hav, hcap, hmx⟩ := (hNc.nodes (Nat.le_refl _)).slice
    subst hav
    have hpar : (Rd.rjb s).1.par = q1.1 := by rw [HJB.out]
    clear hN hT3 hml hs2 hs1 HJB
    generalize Rd.rjb s = r at *
    obtain ⟨jb, p⟩ := r
    dsimp only at HTJ HGD HLN hTc hNc hcap hpar
    generalize hRR : takeJ s = R at HTJ
    have HRR := Lib.hid hRR
    clear hRR
    have e1 := Blk.cell hTc.t 1
    have r0 := hTc.r.free 0
    have r1 := hTc.r.free 1
    have r2 := hTc.r.cell 0
    have r3 := hTc.r.cell 1
    by_cases he : p.e = 0
    · have heb : (p.e != 0) = false := by simpa using he
      obtain ⟨hok, hus⟩ := HGD.out he
      have HMY := Lib.hid (fun v B w hv hB => rMayJ_c jb hok hus HLN.out v B w hv hB)
      have HTJ2 : Hid (R = if p.s.size ≠ 0 ∨ jb.may.2 ≠ 0 then (⟨0, []⟩, 2) else (jb, 0)) := by show _ = _; rw [HTJ.out, if_neg (by simpa using he)]
      clear HTJ HGD hok hus he
      have j0 := hTc.j.cell 0
      have j1 := hTc.j.cell 1
      have HJ : Hid (JbAt wc wc.heap.size (.agg #[.int .i64 q1.1, .slice a jb.nodes.length cap]) jb) := ⟨_, by rw [hpar], hNc.nodes (Nat.le_refl _)⟩
      go_wp2_with fail
      refine (HMY.out _ _ wc HJ.out (Nat.le_refl _)).mono ?_
      rintro e w3 ⟨rfl, hb3⟩
      have hTm := hTc.keep hb3
      have hNm := hNc.keepB hb3.size (fun b _ hb => hb3.block b hb)
      clear hTc hNc hb3 j0 j1 HJ HMY r0 r1 r2 r3 e1
      have d0 := Blk.cell hTm.t 0
      have r0 := hTm.r.free 0
      have r1 := hTm.r.free 1
      have r2 := hTm.r.cell 0
      have r3 := hTm.r.cell 1
      have j0 := hTm.j.cell 0
      have j1 := hTm.j.cell 1
      have hem := emp_size p.s
      by_cases hz : p.s.size = 0
      · have hz1 : p.s.toList.isEmpty = true := by rw [hem]; exact decide_eq_true hz
        by_cases hm : jb.may.2 = 0
        · have hmb : (jb.may.2 != 0) = false := by simpa using hm
          have HR : Hid (R = (jb, 0)) := by show _ = _; rw [HTJ2.out, if_neg (by simp [hz, hm])]
          clear hem hz HTJ2 hm
          go_wp2_with fail
          refine bodyPost_ret (v := .tuple #[.agg #[_, _], _]) (results_cell_row2P rfl _ _ w.heap.size 24 _ (0, 0) _ rfl (jb_set hTm.r rfl _ _) Try.underlying24 rfl ?_ (.int .i64 0) rfl) rfl ?_
          · as_aux_lemma => kernel_rfl
          · rw [HRR.out, HR.out]
            refine ⟨_, rfl, ⟨_, by rw [hpar], (hNm.keepB (wy := (w3.setCell ⟨w.heap.size, 0, none⟩ (.int .i64 q1.1)).setCell ⟨w.heap.size, 1, none⟩ (.slice a jb.nodes.length cap)) (by simp) (fun b hb _ => ?_)).nodes (Nat.le_refl _)⟩, (hTm.below.setCell (p := ⟨w.heap.size, 0, none⟩) (Nat.le_refl _) _).setCell (p := ⟨w.heap.size, 1, none⟩) (Nat.le_refl _) _⟩
            have hn : b ≠ w.heap.size := by omega
            rw [heap_setCell_other _ ⟨w.heap.size, 1, none⟩ b _ hn, heap_setCell_other _ ⟨w.heap.size, 0, none⟩ b _ hn]
        · have hmb : (jb.may.2 != 0) = true := by simpa using hm
          have HR : Hid (R = (⟨0, []⟩, 2)) := by show _ = _; rw [HTJ2.out, if_pos (Or.inr hm)]
          clear hem hz HTJ2 hm
          go_wp2_with fail
          refine bodyPost_ret (v := .tuple #[.agg #[_, _], _]) (results_cell_row2P rfl _ _ w.heap.size 24 _ (0, 0) _ rfl (jb_set hTm.r rfl _ _) Try.underlying24 rfl ?_ (.int .i64 2) rfl) rfl ?_
          · as_aux_lemma => kernel_rfl
          · rw [HRR.out, HR.out]
            exact ⟨_, rfl, ⟨_, rfl, none, 0, rfl, Nat.le_refl _, Nat.zero_le _, .inl rfl⟩, (hTm.below.setCell (p := ⟨w.heap.size, 0, none⟩) (Nat.le_refl _) _).setCell (p := ⟨w.heap.size, 1, none⟩) (Nat.le_refl _) _⟩
      · have hz1 : p.s.toList.isEmpty = false := by rw [hem]; exact decide_eq_false hz
        have HR : Hid (R = (⟨0, []⟩, 2)) := by show _ = _; rw [HTJ2.out, if_pos (Or.inl hz)]
        clear hem hz HTJ2
        go_wp2_with fail
        refine bodyPost_ret (v := .tuple #[.agg #[_, _], _]) (results_cell_row2P rfl _ _ w.heap.size 24 _ (0, 0) _ rfl (jb_set hTm.r rfl _ _) Try.underlying24 rfl ?_ (.int .i64 2) rfl) rfl ?_
        · as_aux_lemma => kernel_rfl
        · rw [HRR.out, HR.out]
          exact ⟨_, rfl, ⟨_, rfl, none, 0, rfl, Nat.le_refl _, Nat.zero_le _, .inl rfl⟩, (hTm.below.setCell (p := ⟨w.heap.size, 0, none⟩) (Nat.le_refl _) _).setCell (p := ⟨w.heap.size, 1, none⟩) (Nat.le_refl _) _⟩
    · have heb : (p.e != 0) = true := by simpa using he
      have HR : Hid (R = (⟨0, []⟩, p.e)) := by show _ = _; rw [HTJ.out, if_pos he]
      clear he HTJ
      go_upto_region 20 with fail
      go_region
      all_goals
        go_wp2_with fail
        refine bodyPost_ret (v := .tuple #[.agg #[_, _], _]) (results_cell_row2P rfl _ _ w.heap.size 24 _ (0, 0) _ rfl (Blk.drew (jb_set hTc.r rfl _ _)) Try.underlying24 rfl ?_ (.int .i64 p.e) rfl) rfl ?_
        · as_aux_lemma => kernel_rfl
        · rw [HRR.out, HR.out]
          exact ⟨_, rfl, ⟨_, rfl, none, 0, rfl, Nat.le_refl _, Nat.zero_le _, .inl rfl⟩, ((hTc.below.setCell (p := ⟨w.heap.size, 0, none⟩) (Nat.le_refl _) _).setCell (p := ⟨w.heap.size, 1, none⟩) (Nat.le_refl _) _).drew⟩
  go_wp2_with fail
  go_loopw [7] (fun q wx => ∃ (i : Nat) (acc : List Nd) (av : Value) (cs : List Value) (ivs svs : Nat → Value) (p : Rd), q = .int .i64 (i : Int) ∧ i ≤ mm ∧ acc.length = i ∧ rNds mm q2 = (acc ++ (rNds (mm - i) p).1, (rNds (mm - i) p).2) ∧ p.s.size ≤ 140737488355328 ∧
    TJR w wx B0 p q1.1 av ∧ NRow B0 wx acc av cs ivs svs) (fun q _ => mm - (intOf q).toNat)
  case atStart => exact ⟨0, [], .slice none 0 0, [], fun _ => undef, fun _ => undef, q2, rfl, Nat.zero_le _, rfl, by simp, hs2, hT3, hN⟩
  case round =>
    obtain ⟨i, acc, av, cs, ivs, svs, p, rfl, hi, hal, hE, hps, hTr, hNr⟩ := hrel
    have HAL := Lib.hid hal
    clear hal hT3 hN
    have c1 := Blk.cell hTr.t 1
    by_cases hlt : i < mm
    · have hltd : decide ((i : Int) < (mm : Int)) = true := decide_eq_true (by omega)
      by_cases hpe : p.e = 0
      · have hpb : (p.e == 0) = true := by simpa using hpe
        have HT2 : Hid (rNds mm q2 = (acc ++ (rNds ((mm - i - 1) + 1) p).1, (rNds ((mm - i - 1) + 1) p).2)) := by show _ = _; rw [hE]; rw [show mm - i - 1 + 1 = mm - i by omega]
        have HT3 : Hid (rNds ((mm - i - 1) + 1) p = (p.rnd.1 :: (rNds (mm - i - 1) p.rnd.2).1, (rNds (mm - i - 1) p.rnd.2).2)) := by show _ = _; conv => lhs; unfold rNds
                                                                                                                                     rw [if_neg (by simpa using hpe)]
        have HND : Hid (p.rnd = (⟨p.text.1, (p.text.2.win 255 2).1, (reps Rd.num ((p.text.2.win 255 2).2.num.2.win 12 3).1.toNat ((p.text.2.win 255 2).2.num.2.win 12 3).2).1, (Rd.rx 17 (reps Rd.num ((p.text.2.win 255 2).2.num.2.win 12 3).1.toNat ((p.text.2.win 255 2).2.num.2.win 12 3).2).2).1, (p.text.2.win 255 2).2.num.1⟩,
          (Rd.rx 17 (reps Rd.num ((p.text.2.win 255 2).2.num.2.win 12 3).1.toNat ((p.text.2.win 255 2).2.num.2.win 12 3).2).2).2)) := rfl
        clear hE hpe
        generalize wr = wo at *
        have hus := p.text_le
        have hs1 := Nat.le_trans p.text_size hps
        have HTX := Lib.hid (fun W h1 => ttext_c (w.heap.size + 1) p hps W h1)
        generalize p.text = t1 at *
        have hs2 := Nat.le_trans (win_size 255 2 t1.2) hs1
        have HSM := Lib.hid (fun W h1 => twithin_c (w.heap.size + 1) 255 2 t1.2 hs1 W h1)
        have hir := win_ir 255 2 (by omega) t1.2
        generalize t1.2.win 255 2 = t2 at *
        have hs3 := Nat.le_trans t2.2.num_size hs2
        have HNU := Lib.hid (fun W h1 => tnumber_c (w.heap.size + 1) t2.2 hs2 W h1)
        generalize t2.2.num = t3 at *
        have hs4 := Nat.le_trans (win_size 12 3 t3.2) hs3
        have HMN := Lib.hid (fun W h1 => twithin_c (w.heap.size + 1) 12 3 t3.2 hs3 W h1)
        have hml2 := win_ir 12 3 (by omega) t3.2
        generalize t3.2.win 12 3 = t4 at *
        obtain ⟨u, p1⟩ := t1
        obtain ⟨kd, p2⟩ := t2
        obtain ⟨n, p3⟩ := t3
        obtain ⟨m, p4⟩ := t4
        dsimp only at HND HTX HSM HNU HMN hs1 hs2 hs3 hs4 hus hml2 hir
        obtain ⟨kk, rfl⟩ : ∃ kk : Nat, m = (kk : Int) := ⟨m.toNat, by have := hml2.1; omega⟩
        rw [Int.toNat_natCast] at HND
        have hbt := hTr.t.lt
        have hbig := hTr.big
        have hjlt := hTr.j.lt
        have hu2 : u.size ≤ maxLen := by unfold maxLen; omega
        clear hus
        have nb := Blk.new wo #[.string ⟨#[]⟩, .int .u8 0, .slice none 0 0, .int .u8 0, .int .i64 0, .slice none 0 0, .int .i64 0] 37
        have f : Fr (FrT (w.heap.size + 1)) wo (wo.alloc (.cells #[.string ⟨#[]⟩, .int .u8 0, .slice none 0 0, .int .u8 0, .int .i64 0, .slice none 0 0, .int .i64 0] 37)) := (Fr.refl _ wo).alloc _
        have ps := hTr.t.alloc (.cells #[.string ⟨#[]⟩, .int .u8 0, .slice none 0 0, .int .u8 0, .int .i64 0, .slice none 0 0, .int .i64 0] 37)
        have hbn : ¬ FrT (w.heap.size + 1) wo.heap.size := by unfold FrT; omega
        have hnl : wo.heap.size < (wo.alloc (.cells #[.string ⟨#[]⟩, .int .u8 0, .slice none 0 0, .int .u8 0, .int .i64 0, .slice none 0 0, .int .i64 0] 37)).heap.size := by simp
        go_upto_region 9 with fail
        generalize wo.alloc (.cells #[.string ⟨#[]⟩, .int .u8 0, .slice none 0 0, .int .u8 0, .int .i64 0, .slice none 0 0, .int .i64 0] 37) = W8 at *
        clear c1
        go_wp2_with fail
        refine (HTX.out _ ps).mono ?_
        rintro e wa ⟨rfl, psn, fn⟩
        replace nb := nb.fr fn hbn
        replace f := f.trans fn
        replace ps := psn
        clear fn psn
        have z0 := nb.free 0
        have c0 := nb.cell 0
        go_upto_region 10 with fail
        have nbn : Blk (wa.setCell ⟨wo.heap.size, 0, none⟩ (.string u)) wo.heap.size 37 #[.string u, .int .u8 0, .slice none 0 0, .int .u8 0, .int .i64 0, .slice none 0 0, .int .i64 0] := nb.set 0 (.string u)
        have fn := f.setCell (p := ⟨wo.heap.size, 0, none⟩) (.inr (Nat.le_refl _)) (.string u)
        have psn := ps.other (a := ⟨wo.heap.size, 0, none⟩) (by show _ ≠ wo.heap.size; omega) (.string u)
        generalize wa.setCell ⟨wo.heap.size, 0, none⟩ (.string u) = wax at *
        clear z0 c0 nb f ps
        have nb := nbn
        have f := fn
        have ps := psn
        clear nbn fn psn
        go_wp2_with fail
        refine (HSM.out _ ps).mono ?_
        rintro e wb ⟨rfl, psn, fn⟩
        replace nb := nb.fr fn hbn
        replace f := f.trans fn
        replace ps := psn
        clear fn psn
        have z0 := nb.free 1
        have c0 := nb.cell 1
        go_upto_region 11 with fail
        have nbn : Blk (wb.setCell ⟨wo.heap.size, 1, none⟩ (.int .u8 kd)) wo.heap.size 37 #[.string u, .int .u8 kd, .slice none 0 0, .int .u8 0, .int .i64 0, .slice none 0 0, .int .i64 0] := nb.set 1 (.int .u8 kd)
        have fn := f.setCell (p := ⟨wo.heap.size, 1, none⟩) (.inr (Nat.le_refl _)) (.int .u8 kd)
        have psn := ps.other (a := ⟨wo.heap.size, 1, none⟩) (by show _ ≠ wo.heap.size; omega) (.int .u8 kd)
        generalize wb.setCell ⟨wo.heap.size, 1, none⟩ (.int .u8 kd) = wbx at *
        clear z0 c0 nb f ps
        have nb := nbn
        have f := fn
        have ps := psn
        clear nbn fn psn
        go_wp2_with fail
        refine (HNU.out _ ps).mono ?_
        rintro e wd ⟨rfl, psn, fn⟩
        replace nb := nb.fr fn hbn
        replace f := f.trans fn
        replace ps := psn
        clear fn psn
        have z0 := nb.free 6
        have c0 := nb.cell 6
        go_upto_region 12 with fail
        have nbn : Blk (wd.setCell ⟨wo.heap.size, 6, none⟩ (.int .i64 n)) wo.heap.size 37 #[.string u, .int .u8 kd, .slice none 0 0, .int .u8 0, .int .i64 0, .slice none 0 0, .int .i64 n] := nb.set 6 (.int .i64 n)
        have fn := f.setCell (p := ⟨wo.heap.size, 6, none⟩) (.inr (Nat.le_refl _)) (.int .i64 n)
        have psn := ps.other (a := ⟨wo.heap.size, 6, none⟩) (by show _ ≠ wo.heap.size; omega) (.int .i64 n)
        generalize wd.setCell ⟨wo.heap.size, 6, none⟩ (.int .i64 n) = wdx at *
        clear z0 c0 nb f ps
        have nb := nbn
        have f := fn
        have ps := psn
        clear nbn fn psn
        clear HTX HSM HNU
        go_wp2_with fail
        refine (HMN.out _ ps).mono ?_
        rintro e w6 ⟨rfl, psn, fn⟩
        replace nb := nb.fr fn hbn
        replace f := f.trans fn
        replace ps := psn
        clear fn psn HMN
        have hB1 : wo.heap.size < w6.heap.size := nb.lt
        have own0 : w6.ownsRow w6.heap.size 3 1 (.slice none 0 0) 0 ((reps Rd.num 0 p4).1.map (Value.int .i64)) := ⟨rfl, .inl ⟨rfl, rfl⟩⟩
        obtain ⟨ji, ki, kz0, kz1, kz2⟩ := info_parts info_intJ
        generalize hgB : w6.heap.size = B1 at hB1 own0
        have hB2 : B1 ≤ w6.heap.size := Nat.le_of_eq hgB.symm
        clear hgB
        go_wp2_with fail
        go_loopw [10] (fun q wx => ∃ (j : Nat) (iv : Value), q = .int .i64 (j : Int) ∧ j ≤ kk ∧ Fr (FrT (w.heap.size + 1)) wo wx ∧ RT wx (w.heap.size + 1) (reps Rd.num j p4).2 ∧ Blk wx wo.heap.size 37 #[.string u, .int .u8 kd, iv, .int .u8 0, .int .i64 0, .slice none 0 0, .int .i64 n] ∧ wx.ownsRow B1 3 1 iv j ((reps Rd.num j p4).1.map (Value.int .i64)) ∧ B1 ≤ wx.heap.size) (fun q _ => kk - (intOf q).toNat)
        case atStart => exact ⟨0, .slice none 0 0, rfl, Nat.zero_le _, f, ps, nb, own0, hB2⟩
        case round =>
          obtain ⟨j, iv, rfl, hj, f7, h7, nb7, own7, hB7⟩ := hrel
          clear f ps nb own0 hB2
          have HSN := Lib.hid (reps_snoc Rd.num j p4)
          have hsr := Nat.le_trans (reps_size Rd.num Rd.num_size j p4) hs4
          by_cases hlj : j < kk
          · have hljd : decide ((j : Int) < (kk : Int)) = true := decide_eq_true (by omega)
            generalize reps Rd.num j p4 = r at *
            have h7d := h7.drew
            have f7d := f7.drew
            have nb7d := nb7.drew
            have hx7 := nb7d.cell 2
            go_upto_region 16 with fail
            refine wp_region_held_drew (S := (fun w' => True)) (by kernel_rfl) ?_ (fun hHeld => ?_)
            · exact trivial
            refine wpAnyH_take (i := 0) (oi := _) (v := ?_) rfl (by kernel_rfl) (by kernel_rfl) (by kernel_rfl) (fun _ _ _ h => h) (Or.inl ⟨by rfl, ?_⟩) (by assumption) ?_
            rotate_left
            · intro w' hSw
              (try dsimp only at hSw)
              clear hSw
              go_simp
              try with_reducible rfl
            try simp only [Act.put, List.getElem_toArray, List.getElem_cons_zero, List.setIfInBounds_toArray, List.set_cons_zero, List.set_cons_succ]
            refine wpAnyH_take (i := 2) (oi := _) (v := ?_) rfl (by kernel_rfl) (by kernel_rfl) (by kernel_rfl) (fun _ _ _ h => h) (Or.inl ⟨by rfl, ?_⟩) (by assumption) ?_
            rotate_left
            · intro w' hSw
              (try dsimp only at hSw)
              clear hSw
              go_simp
              try with_reducible rfl
            try simp only [Act.put, List.getElem_toArray, List.getElem_cons_zero, List.getElem_cons_succ, List.setIfInBounds_toArray, List.set_cons_zero, List.set_cons_succ]
            refine wpAnyH_ready (rs := [1, 3]) (by kernel_rfl) (by simp) ?_
            refine AllReadyH.cons rfl (fun K hK => ?_) (AllReadyH.cons rfl (fun K hK => ?_) (AllReadyH.nil))
            · go_simp
              refine hK.out _ _ ?_ (fun hHeld => ?_)
              · exact trivial
              clear hK K
              try simp only [Act.put, List.getElem_toArray, List.getElem_cons_zero, List.getElem_cons_succ, List.setIfInBounds_toArray, List.set_cons_zero, List.set_cons_succ]
              refine wpAnyH_ready (rs := [3]) (by kernel_rfl) (by simp) ?_
              refine AllReadyH.cons rfl (fun K hK => ?_) AllReadyH.nil
              go_simp
              go_at_call 59
              refine (tnumber_c (w.heap.size + 1) r.2 hsr wr.drew h7d).mono ?_
              rintro e w8 ⟨rfl, h8, f8⟩
              have nb8 := nb7d.fr f8 hbn
              have own8 := own_fr (own_drew own7) f8 (fun k q => by unfold FrT at q; omega)
              have hsz8 : wr.heap.size ≤ w8.heap.size := f8.size
              replace f8 := f7d.trans f8
              have hir8 := r.2.num_ir
              generalize r.2.num = y at *
              have hB8 : B1 ≤ w8.heap.size := Nat.le_trans hB7 hsz8
              have hx8 := nb8.cell 2
              refine hK.out _ _ ?_ (fun hHeld => ?_)
              · exact trivial
              clear hK K
              try simp only [Act.put, List.getElem_toArray, List.getElem_cons_zero, List.getElem_cons_succ, List.setIfInBounds_toArray, List.set_cons_zero, List.set_cons_succ]
              refine wpAnyH_ready (rs := [4]) (by kernel_rfl) (by simp) ?_
              refine AllReadyH.cons rfl (fun K hK => ?_) AllReadyH.nil
              go_simp
              have ha := h8.alloc (.cells #[.int .i64 y.1] 3)
              have nba := nb8.alloc (.cells #[.int .i64 y.1] 3)
              have fa := f8.alloc (.cells #[.int .i64 y.1] 3)
              have owna := own_alloc own8 (.cells #[.int .i64 y.1] 3)
              have hxa := nba.cell 2
              refine hK.out _ _ ?_ (fun hHeld => ?_)
              · exact trivial
              clear hK K
              try simp only [Act.put, List.getElem_toArray, List.getElem_cons_zero, List.getElem_cons_succ, List.setIfInBounds_toArray, List.set_cons_zero, List.set_cons_succ]
              refine wpAnyH_ready (rs := [5]) (by kernel_rfl) (by simp) ?_
              refine AllReadyH.cons rfl (fun K hK => ?_) AllReadyH.nil
              have hszX : (w8.alloc (.cells #[.int .i64 y.1] 3)).heap.size = w8.heap.size + 1 := by simp
              refine step_append_lies _ (by rfl) _ _ _ (by rfl) B1 3 ji (.int .i64 0) 1 8 Try.underlying32 ki kz0 kz1 kz2 rfl (by decide) iv j (r.1.map (Value.int .i64)) (by rfl) owna ⟨w8.heap.size, 0, none⟩ 1 1 (#[Value.int .i64 y.1]).toList (by rfl) (by rfl) (World.news_of_block (heap_alloc_new w8 _)) (by simp [Value.oneCell']) (by omega) (by unfold maxLen; omega) (by omega) (by omega) _ rfl ?_
              intro g capg w9 own9 hg9 hat9 hlt9
              have hgn : ∀ q, iv.ownBlock = some q → B1 ≤ q := own_ge own7
              have h9 : RT w9 (w.heap.size + 1) y.2 := Blk.grown ha hg9 (fun e => by have := hgn _ e.symm; omega)
              have nb9 := nba.grown hg9 (fun e => by have := hgn _ e.symm; omega)
              have f9 := fa.grown hg9 (fun q e => .inr (by have := hgn _ e; omega))
              have hB9 : B1 ≤ w9.heap.size := by have := hg9.size; omega
              have hx9 := nb9.cell 2
              have hz9 := nb9.free 2
              refine hK.out _ _ ?_ (fun hHeld => ?_)
              · exact trivial
              clear hK K
              try simp only [Act.put, List.getElem_toArray, List.getElem_cons_zero, List.getElem_cons_succ, List.setIfInBounds_toArray, List.set_cons_zero, List.set_cons_succ]
              refine wpAnyH_take (i := 6) (oi := _) (v := ?_) rfl (by kernel_rfl) (by kernel_rfl) (by kernel_rfl) (fun _ _ _ h => h) (Or.inl ⟨by rfl, ?_⟩) (by assumption) ?_
              rotate_left
              · intro w' hSw
                (try dsimp only at hSw)
                clear hSw
                go_simp
                try with_reducible rfl
              try simp only [Act.put, List.getElem_toArray, List.getElem_cons_zero, List.getElem_cons_succ, List.setIfInBounds_toArray, List.set_cons_zero, List.set_cons_succ]
              refine wpAnyH_ready (rs := [7]) (by kernel_rfl) (by simp) ?_
              refine AllReadyH.cons rfl (fun K hK => ?_) AllReadyH.nil
              go_simp
              have hgb : wo.heap.size ≠ g := fun e => by rcases hat9 with h | h; (have := hgn _ h; omega); (rw [hszX] at h; omega)
              have nb10 := nb9.set 2 (.slice (some ⟨g, 0, none⟩) (j + 1) capg)
              have f10 := f9.setCell (p := ⟨wo.heap.size, 2, none⟩) (.inr (Nat.le_refl _)) (.slice (some ⟨g, 0, none⟩) (j + 1) capg)
              have h10 := h9.other (a := ⟨wo.heap.size, 2, none⟩) (by show _ ≠ wo.heap.size; omega) (.slice (some ⟨g, 0, none⟩) (j + 1) capg)
              have own10 := own_other own9 (p := ⟨wo.heap.size, 2, none⟩) hB1 (.slice (some ⟨g, 0, none⟩) (j + 1) capg)
              refine hK.out _ _ ?_ (fun hHeld => ?_)
              · exact trivial
              clear hK K
              try simp only [Act.put, List.getElem_toArray, List.getElem_cons_zero, List.getElem_cons_succ, List.setIfInBounds_toArray, List.set_cons_zero, List.set_cons_succ]
              refine wpAnyH_done (by kernel_rfl) ?_ _
              go_wp2_with fail
              go_roundw
              case measure => simp only [intOf]; omega
              case rel =>
                refine ⟨j + 1, _, rfl, by omega, f10, ?_, nb10, ?_, by simpa using hB9⟩
                · rw [HSN.out]; exact h10
                · rw [HSN.out, List.map_append]; exact own10
            · go_simp
              go_at_call 59
              refine (tnumber_c (w.heap.size + 1) r.2 hsr wr.drew h7d).mono ?_
              rintro e w8 ⟨rfl, h8, f8⟩
              have nb8 := nb7d.fr f8 hbn
              have own8 := own_fr (own_drew own7) f8 (fun k q => by unfold FrT at q; omega)
              have hsz8 : wr.heap.size ≤ w8.heap.size := f8.size
              replace f8 := f7d.trans f8
              have hir8 := r.2.num_ir
              generalize r.2.num = y at *
              have hB8 : B1 ≤ w8.heap.size := Nat.le_trans hB7 hsz8
              have hx8 := nb8.cell 2
              refine hK.out _ _ ?_ (fun hHeld => ?_)
              · exact trivial
              clear hK K
              try simp only [Act.put, List.getElem_toArray, List.getElem_cons_zero, List.getElem_cons_succ, List.setIfInBounds_toArray, List.set_cons_zero, List.set_cons_succ]
              refine wpAnyH_ready (rs := [1, 4]) (by kernel_rfl) (by simp) ?_
              refine AllReadyH.cons rfl (fun K hK => ?_) (AllReadyH.cons rfl (fun K hK => ?_) (AllReadyH.nil))
              · go_simp
                refine hK.out _ _ ?_ (fun hHeld => ?_)
                · exact trivial
                clear hK K
                try simp only [Act.put, List.getElem_toArray, List.getElem_cons_zero, List.getElem_cons_succ, List.setIfInBounds_toArray, List.set_cons_zero, List.set_cons_succ]
                refine wpAnyH_ready (rs := [4]) (by kernel_rfl) (by simp) ?_
                refine AllReadyH.cons rfl (fun K hK => ?_) AllReadyH.nil
                go_simp
                have ha := h8.alloc (.cells #[.int .i64 y.1] 3)
                have nba := nb8.alloc (.cells #[.int .i64 y.1] 3)
                have fa := f8.alloc (.cells #[.int .i64 y.1] 3)
                have owna := own_alloc own8 (.cells #[.int .i64 y.1] 3)
                have hxa := nba.cell 2
                refine hK.out _ _ ?_ (fun hHeld => ?_)
                · exact trivial
                clear hK K
                try simp only [Act.put, List.getElem_toArray, List.getElem_cons_zero, List.getElem_cons_succ, List.setIfInBounds_toArray, List.set_cons_zero, List.set_cons_succ]
                refine wpAnyH_ready (rs := [5]) (by kernel_rfl) (by simp) ?_
                refine AllReadyH.cons rfl (fun K hK => ?_) AllReadyH.nil
                have hszX : (w8.alloc (.cells #[.int .i64 y.1] 3)).heap.size = w8.heap.size + 1 := by simp
                refine step_append_lies _ (by rfl) _ _ _ (by rfl) B1 3 ji (.int .i64 0) 1 8 Try.underlying32 ki kz0 kz1 kz2 rfl (by decide) iv j (r.1.map (Value.int .i64)) (by rfl) owna ⟨w8.heap.size, 0, none⟩ 1 1 (#[Value.int .i64 y.1]).toList (by rfl) (by rfl) (World.news_of_block (heap_alloc_new w8 _)) (by simp [Value.oneCell']) (by omega) (by unfold maxLen; omega) (by omega) (by omega) _ rfl ?_
                intro g capg w9 own9 hg9 hat9 hlt9
                have hgn : ∀ q, iv.ownBlock = some q → B1 ≤ q := own_ge own7
                have h9 : RT w9 (w.heap.size + 1) y.2 := Blk.grown ha hg9 (fun e => by have := hgn _ e.symm; omega)
                have nb9 := nba.grown hg9 (fun e => by have := hgn _ e.symm; omega)
                have f9 := fa.grown hg9 (fun q e => .inr (by have := hgn _ e; omega))
                have hB9 : B1 ≤ w9.heap.size := by have := hg9.size; omega
                have hx9 := nb9.cell 2
                have hz9 := nb9.free 2
                refine hK.out _ _ ?_ (fun hHeld => ?_)
                · exact trivial
                clear hK K
                try simp only [Act.put, List.getElem_toArray, List.getElem_cons_zero, List.getElem_cons_succ, List.setIfInBounds_toArray, List.set_cons_zero, List.set_cons_succ]
                refine wpAnyH_take (i := 6) (oi := _) (v := ?_) rfl (by kernel_rfl) (by kernel_rfl) (by kernel_rfl) (fun _ _ _ h => h) (Or.inl ⟨by rfl, ?_⟩) (by assumption) ?_
                rotate_left
                · intro w' hSw
                  (try dsimp only at hSw)
                  clear hSw
                  go_simp
                  try with_reducible rfl
                try simp only [Act.put, List.getElem_toArray, List.getElem_cons_zero, List.getElem_cons_succ, List.setIfInBounds_toArray, List.set_cons_zero, List.set_cons_succ]
                refine wpAnyH_ready (rs := [7]) (by kernel_rfl) (by simp) ?_
                refine AllReadyH.cons rfl (fun K hK => ?_) AllReadyH.nil
                go_simp
                have hgb : wo.heap.size ≠ g := fun e => by rcases hat9 with h | h; (have := hgn _ h; omega); (rw [hszX] at h; omega)
                have nb10 := nb9.set 2 (.slice (some ⟨g, 0, none⟩) (j + 1) capg)
                have f10 := f9.setCell (p := ⟨wo.heap.size, 2, none⟩) (.inr (Nat.le_refl _)) (.slice (some ⟨g, 0, none⟩) (j + 1) capg)
                have h10 := h9.other (a := ⟨wo.heap.size, 2, none⟩) (by show _ ≠ wo.heap.size; omega) (.slice (some ⟨g, 0, none⟩) (j + 1) capg)
                have own10 := own_other own9 (p := ⟨wo.heap.size, 2, none⟩) hB1 (.slice (some ⟨g, 0, none⟩) (j + 1) capg)
                refine hK.out _ _ ?_ (fun hHeld => ?_)
                · exact trivial
                clear hK K
                try simp only [Act.put, List.getElem_toArray, List.getElem_cons_zero, List.getElem_cons_succ, List.setIfInBounds_toArray, List.set_cons_zero, List.set_cons_succ]
                refine wpAnyH_done (by kernel_rfl) ?_ _
                go_wp2_with fail
                go_roundw
                case measure => simp only [intOf]; omega
                case rel =>
                  refine ⟨j + 1, _, rfl, by omega, f10, ?_, nb10, ?_, by simpa using hB9⟩
                  · rw [HSN.out]; exact h10
                  · rw [HSN.out, List.map_append]; exact own10
              · go_simp
                have ha := h8.alloc (.cells #[.int .i64 y.1] 3)
                have nba := nb8.alloc (.cells #[.int .i64 y.1] 3)
                have fa := f8.alloc (.cells #[.int .i64 y.1] 3)
                have owna := own_alloc own8 (.cells #[.int .i64 y.1] 3)
                have hxa := nba.cell 2
                refine hK.out _ _ ?_ (fun hHeld => ?_)
                · exact trivial
                clear hK K
                try simp only [Act.put, List.getElem_toArray, List.getElem_cons_zero, List.getElem_cons_succ, List.setIfInBounds_toArray, List.set_cons_zero, List.set_cons_succ]
                refine wpAnyH_ready (rs := [1]) (by kernel_rfl) (by simp) ?_
                refine AllReadyH.cons rfl (fun K hK => ?_) AllReadyH.nil
                go_simp
                refine hK.out _ _ ?_ (fun hHeld => ?_)
                · exact trivial
                clear hK K
                try simp only [Act.put, List.getElem_toArray, List.getElem_cons_zero, List.getElem_cons_succ, List.setIfInBounds_toArray, List.set_cons_zero, List.set_cons_succ]
                refine wpAnyH_ready (rs := [5]) (by kernel_rfl) (by simp) ?_
                refine AllReadyH.cons rfl (fun K hK => ?_) AllReadyH.nil
                have hszX : (w8.alloc (.cells #[.int .i64 y.1] 3)).heap.size = w8.heap.size + 1 := by simp
                refine step_append_lies _ (by rfl) _ _ _ (by rfl) B1 3 ji (.int .i64 0) 1 8 Try.underlying32 ki kz0 kz1 kz2 rfl (by decide) iv j (r.1.map (Value.int .i64)) (by rfl) owna ⟨w8.heap.size, 0, none⟩ 1 1 (#[Value.int .i64 y.1]).toList (by rfl) (by rfl) (World.news_of_block (heap_alloc_new w8 _)) (by simp [Value.oneCell']) (by omega) (by unfold maxLen; omega) (by omega) (by omega) _ rfl ?_
                intro g capg w9 own9 hg9 hat9 hlt9
                have hgn : ∀ q, iv.ownBlock = some q → B1 ≤ q := own_ge own7
                have h9 : RT w9 (w.heap.size + 1) y.2 := Blk.grown ha hg9 (fun e => by have := hgn _ e.symm; omega)
                have nb9 := nba.grown hg9 (fun e => by have := hgn _ e.symm; omega)
                have f9 := fa.grown hg9 (fun q e => .inr (by have := hgn _ e; omega))
                have hB9 : B1 ≤ w9.heap.size := by have := hg9.size; omega
                have hx9 := nb9.cell 2
                have hz9 := nb9.free 2
                refine hK.out _ _ ?_ (fun hHeld => ?_)
                · exact trivial
                clear hK K
                try simp only [Act.put, List.getElem_toArray, List.getElem_cons_zero, List.getElem_cons_succ, List.setIfInBounds_toArray, List.set_cons_zero, List.set_cons_succ]
                refine wpAnyH_take (i := 6) (oi := _) (v := ?_) rfl (by kernel_rfl) (by kernel_rfl) (by kernel_rfl) (fun _ _ _ h => h) (Or.inl ⟨by rfl, ?_⟩) (by assumption) ?_
                rotate_left
                · intro w' hSw
                  (try dsimp only at hSw)
                  clear hSw
                  go_simp
                  try with_reducible rfl
                try simp only [Act.put, List.getElem_toArray, List.getElem_cons_zero, List.getElem_cons_succ, List.setIfInBounds_toArray, List.set_cons_zero, List.set_cons_succ]
                refine wpAnyH_ready (rs := [7]) (by kernel_rfl) (by simp) ?_
                refine AllReadyH.cons rfl (fun K hK => ?_) AllReadyH.nil
                go_simp
                have hgb : wo.heap.size ≠ g := fun e => by rcases hat9 with h | h; (have := hgn _ h; omega); (rw [hszX] at h; omega)
                have nb10 := nb9.set 2 (.slice (some ⟨g, 0, none⟩) (j + 1) capg)
                have f10 := f9.setCell (p := ⟨wo.heap.size, 2, none⟩) (.inr (Nat.le_refl _)) (.slice (some ⟨g, 0, none⟩) (j + 1) capg)
                have h10 := h9.other (a := ⟨wo.heap.size, 2, none⟩) (by show _ ≠ wo.heap.size; omega) (.slice (some ⟨g, 0, none⟩) (j + 1) capg)
                have own10 := own_other own9 (p := ⟨wo.heap.size, 2, none⟩) hB1 (.slice (some ⟨g, 0, none⟩) (j + 1) capg)
                refine hK.out _ _ ?_ (fun hHeld => ?_)
                · exact trivial
                clear hK K
                try simp only [Act.put, List.getElem_toArray, List.getElem_cons_zero, List.getElem_cons_succ, List.setIfInBounds_toArray, List.set_cons_zero, List.set_cons_succ]
                refine wpAnyH_done (by kernel_rfl) ?_ _
                go_wp2_with fail
                go_roundw
                case measure => simp only [intOf]; omega
                case rel =>
                  refine ⟨j + 1, _, rfl, by omega, f10, ?_, nb10, ?_, by simpa using hB9⟩
                  · rw [HSN.out]; exact h10
                  · rw [HSN.out, List.map_append]; exact own10
          · have hljd : decide ((j : Int) < (kk : Int)) = false := decide_eq_false (by omega)
            obtain rfl : j = kk := by omega
            have hln := reps_len Rd.num j p4
            have HAL2 : acc.length < 12 := by have := HAL.out; have := hml.2; omega
            generalize reps Rd.num j p4 = r at *
            have HEX : Hid (∀ W, RT W (w.heap.size + 1) r.2 → Calls Try.prog 62 #[.pointer (some ⟨(w.heap.size + 1), 0, none⟩), .int .i64 17] W (RxPost 17 (w.heap.size + 1) r.2 W)) := fun W h1 => trx_c 17 (by omega) _ r.2 W hsr h1
            have hIP : InsP wr (fun b => B1 ≤ b ∧ b < wr.heap.size) r.1 iv := InsP.of_own (e := 3) (by rw [hln]; exact own7)
            clear own7 ki kz0 kz1 kz2
            go_wp2_with fail
            refine (HEX.out _ h7).mono ?_
            rintro e w8 ⟨sv, rfl, hy, h8, f8⟩
            obtain ⟨a2, n2, cap2, rfl⟩ := hy.slice
            have hps5 := Nat.le_trans (Rd.rx_size 17 r.2) hsr
            generalize Rd.rx 17 r.2 = q at *
            obtain ⟨y, p5⟩ := q
            dsimp only at HND hy h8 hps5
            have nb8 := nb7.fr f8 hbn
            have hbw : wo.heap.size < wr.heap.size := nb7.lt
            have hw8 := f8.size
            have hk8 : ∀ b, B1 ≤ b → b < wr.heap.size → w8.heap[b]? = wr.heap[b]? := fun b h1 h2 => f8.block b h2 (fun q => by unfold FrT at q; omega)
            replace f8 := f7.trans f8
            have z3 := nb8.free 3
            have z4 := nb8.free 4
            have z5 := nb8.free 5
            have c3 := nb8.cell 3
            have c4 := nb8.cell 4
            have c5 := nb8.cell 5
            clear HEX
            go_upto_region 18 with fail
            clear z3 z4 z5 c3 c4 c5
            have hfar9 : ∀ b, b ≠ wo.heap.size → (((w8.setCell ⟨wo.heap.size, 3, none⟩ (.int .u8 y.op)).setCell ⟨wo.heap.size, 4, none⟩ (.int .i64 y.n)).setCell ⟨wo.heap.size, 5, none⟩ (.slice a2 n2 cap2)).heap[b]? = w8.heap[b]? := fun b hb => by
              rw [heap_setCell_other _ ⟨wo.heap.size, 5, none⟩ b _ hb, heap_setCell_other _ ⟨wo.heap.size, 4, none⟩ b _ hb, heap_setCell_other _ ⟨wo.heap.size, 3, none⟩ b _ hb]
            have hsz9 : (((w8.setCell ⟨wo.heap.size, 3, none⟩ (.int .u8 y.op)).setCell ⟨wo.heap.size, 4, none⟩ (.int .i64 y.n)).setCell ⟨wo.heap.size, 5, none⟩ (.slice a2 n2 cap2)).heap.size = w8.heap.size := by simp
            have nb9 := nb8.nd_x (.int .u8 y.op) (.int .i64 y.n) (.slice a2 n2 cap2)
            have f9 := ((f8.setCell (p := ⟨wo.heap.size, 3, none⟩) (.inr (Nat.le_refl _)) (.int .u8 y.op)).setCell (p := ⟨wo.heap.size, 4, none⟩) (.inr (Nat.le_refl _)) (.int .i64 y.n)).setCell (p := ⟨wo.heap.size, 5, none⟩) (.inr (Nat.le_refl _)) (.slice a2 n2 cap2)
            have h9 := ((h8.other (a := ⟨wo.heap.size, 3, none⟩) (by show _ ≠ wo.heap.size; omega) (.int .u8 y.op)).other (a := ⟨wo.heap.size, 4, none⟩) (by show _ ≠ wo.heap.size; omega) (.int .i64 y.n)).other (a := ⟨wo.heap.size, 5, none⟩) (by show _ ≠ wo.heap.size; omega) (.slice a2 n2 cap2)
            generalize ((w8.setCell ⟨wo.heap.size, 3, none⟩ (.int .u8 y.op)).setCell ⟨wo.heap.size, 4, none⟩ (.int .i64 y.n)).setCell ⟨wo.heap.size, 5, none⟩ (.slice a2 n2 cap2) = w9 at *
            have hI9 : InsP w9 (fun b => wo.heap.size ≤ b ∧ b < w9.heap.size) r.1 iv := hIP.keep (fun b hb => ⟨by have := hb.1; omega, by have := hb.2; omega⟩) (fun b hb => (hfar9 b (by have := hb.1; omega)).trans (hk8 b hb.1 hb.2))
            have hy9 : ArgsP w9 (fun b => wo.heap.size ≤ b ∧ b < w9.heap.size) y.args (.slice a2 n2 cap2) := hy.keep (fun b hb => ⟨by have := hb.1; omega, by have := hb.2; omega⟩) (fun b hb => hfar9 b (by have := hb.1; omega))
            have hB9 : B0 ≤ w9.heap.size := by omega
            have hT9 := hTr.step f9 h9
            have hN9 := hNr.frT f9 (by omega)
            have hnlt := own_lt hNr.own
            have hnge := own_ge hNr.own
            obtain ⟨an, capn, hav, _, _⟩ := (hNr.nodes (Nat.le_refl _)).slice
            subst hav
            obtain ⟨i0, ni, nz0, nz1, nz2⟩ := info_parts info_ndC
            clear hIP hy nb8 h8 f8 hfar9 hsz9 hTr hNr f7 h7 nb7
            have d0 := nb9.cell 0
            have d1 := nb9.cell 1
            have d2 := nb9.cell 2
            have d3 := nb9.cell 3
            have d4 := nb9.cell 4
            have d5 := nb9.cell 5
            have d6 := nb9.cell 6
            have e1 := hT9.j.cell 1
            have hivs : ∃ ai ni ci, iv = .slice ai ni ci := by rcases hI9 with ⟨_, h⟩ | ⟨g, c, h, _⟩ <;> exact ⟨_, _, _, h⟩
            obtain ⟨ai, nni, ci, rfl⟩ := hivs
            have HNA := Lib.hid (own_alloc hN9.own (.cells #[.string u, .int .u8 kd, .slice ai nni ci, .int .u8 y.op, .int .i64 y.n, .slice a2 n2 cap2, .int .i64 n] 37))
            go_upto_region 7 with (at_builtin; refine wpList_append_lies _ rfl _ _ _ rfl B0 37 i0 (.agg #[.string ⟨#[]⟩, .int .u8 0, .slice none 0 0, .int .u8 0, .int .i64 0, .slice none 0 0, .int .i64 0]) 7 96 Try.underlying22 ni nz0 nz1 nz2 rfl (by omega) (.slice an acc.length capn) acc.length cs rfl HNA.out ⟨w9.heap.size, 0, none⟩ 1 1 (#[.string u, .int .u8 kd, .slice ai nni ci, .int .u8 y.op, .int .i64 y.n, .slice a2 n2 cap2, .int .i64 n]).toList rfl rfl (World.news_of_block (heap_alloc_new w9 _)) (by simp [Value.oneCell']) (by omega) (by unfold maxLen; omega) (by omega) (by simp; omega) _ rfl ?_; intro g capg w10 own10 hg10 hat10 hlt10; have k10 := (hT9.j.alloc (.cells #[.string u, .int .u8 kd, .slice ai nni ci, .int .u8 y.op, .int .i64 y.n, .slice a2 n2 cap2, .int .i64 n] 37)).grown hg10 (fun e => by have := hnge _ e.symm; omega); have k10f := k10.free 1; have k10c := k10.cell 1)
            have hT10 := (hT9.keep ((Below.refl w9.heap.size w9).alloc (Nat.le_refl _) (.cells #[.string u, .int .u8 kd, .slice ai nni ci, .int .u8 y.op, .int .i64 y.n, .slice a2 n2 cap2, .int .i64 n] 37))).keepB (B := B0) (by omega) hg10.os hg10.tape hg10.output hg10.size (fun b hb => hg10.block b (by simp; omega) (fun e => by have := hnge _ e.symm; omega))
            have hT11 := hT10.setJ (.slice (some ⟨g, 0, none⟩) (acc.length + 1) capg)
            have hN10 := hN9.snoc (y := ⟨u, kd, r.1, y, n⟩) (wx := wo) hnlt f9.size hbig hu2 hI9 hy9 hg10 hat10 hlt10 own10
            have hN11 := hN10.keepB (wy := w10.setCell ⟨(w.heap.size + 1 + 1), 1, none⟩ (.slice (some ⟨g, 0, none⟩) (acc.length + 1) capg)) (by simp) (fun b hb _ => heap_setCell_other w10 ⟨(w.heap.size + 1 + 1), 1, none⟩ b _ (by show b ≠ (w.heap.size + 1 + 1); omega))
            clear hT10 hN10 hT9 hN9 k10 k10f k10c hg10 own10 d0 d1 d2 d3 d4 d5 d6 e1 HNA
            generalize w10.setCell ⟨(w.heap.size + 1 + 1), 1, none⟩ (.slice (some ⟨g, 0, none⟩) (acc.length + 1) capg) = w11 at *
            go_wp2_with fail
            go_roundw
            case measure => simp only [intOf]; omega
            case rel =>
              refine ⟨i + 1, acc ++ [⟨u, kd, r.1, y, n⟩], _, _, _, _, p5, rfl, by omega, by rw [List.length_append, HAL.out]; rfl, ?_, hps5, hT11, hN11⟩
              rw [HT2.out, HT3.out, HND.out]
              dsimp only
              rw [List.append_assoc, show mm - (i + 1) = mm - i - 1 by omega]
              rfl
      · have hpb : (p.e == 0) = false := by simpa using hpe
        rw [rNds_err _ hpe, List.append_nil] at hE
        go_wp2_with fail
        go_meet
        rw [HJB.out, hE]
        exact ⟨av, cs, ivs, svs, hTr, hNr⟩
    · have hltd : decide ((i : Int) < (mm : Int)) = false := decide_eq_false (by omega)
      obtain rfl : i = mm := by omega
      rw [Nat.sub_self] at hE
      simp only [rNds, List.append_nil] at hE
      go_wp2_with fail
      go_meet
      rw [HJB.out, hE]
      exact ⟨av, cs, ivs, svs, hTr, hNr⟩

theorem job_atT {j : Jb} {w : World} {B : Nat} {v : Value} (h : JbAt w B v j) : ∃ a n cap, v = .agg #[.int .i64 j.par, .slice a n cap] := by
  obtain ⟨sv, rfl, a, cap, rfl, _⟩ := h
  exact ⟨_, _, _, rfl⟩
set_option maxHeartbeats 4000000 in
theorem PackTakes_c (s : ByteArray) (hs : s.size ≤ 140737488351232) (w : World) :
    Calls Try.prog 6 #[.string s] w fun e w' => e = .returned (.bool true) ∧ Below w.heap.size w w' := by
  by_cases hsz : 20000 < s.size
  · have hszd : decide ((20000 : Int) < (s.size : Int)) = true := decide_eq_true (by omega)
    go_enter Try.func6, Try.ntmps6
    go_wp2_with fail
    refine (pworks_c _).mono ?_
    rintro e w9 ⟨rfl, hq9⟩
    go_wp2_with fail
    go_ret
    exact ⟨rfl, hq9⟩
  · have hszd : decide ((20000 : Int) < (s.size : Int)) = false := decide_eq_false (by omega)
    go_enter Try.func6, Try.ntmps6
    go_wp2_with fail
    refine (packTake_c s (by omega) w).mono ?_
    rintro e w1 ⟨v, rfl, hv, hb1⟩
    obtain ⟨a1, n1, cap1, rfl⟩ := job_atT hv
    have hd1 := Blk.new w1 #[.int .i64 (takeJ s).1.par, .slice a1 n1 cap1] 24
    have hc1 := hb1.alloc hb1.size (.cells #[.int .i64 (takeJ s).1.par, .slice a1 n1 cap1] 24)
    have HK1 := Lib.hid (hv.keep ((Below.refl w1.heap.size w1).alloc (Nat.le_refl _) (.cells #[.int .i64 (takeJ s).1.par, .slice a1 n1 cap1] 24)))
    have hz1 : w1.heap.size ≤ (w1.alloc (.cells #[.int .i64 (takeJ s).1.par, .slice a1 n1 cap1] 24)).heap.size := by simp
    clear hv hb1
    go_upto_region 4 with fail
    generalize w1.alloc _ = W1 at *
    go_wp2_with fail
    refine (rTake14_c s (by omega) W1).mono ?_
    rintro e w2 ⟨v, rfl, hv, hb2⟩
    obtain ⟨a2, n2, cap2, rfl⟩ := job_atT hv
    have hc2 := (hc1.trans (hb2.mono hc1.size)).alloc (Nat.le_trans hc1.size hb2.size) (.cells #[.int .i64 (takeJ s).1.par, .slice a2 n2 cap2] 24)
    have hd2 := Blk.new w2 #[.int .i64 (takeJ s).1.par, .slice a2 n2 cap2] 24
    have hd1' := (hd1.below hb2 hd1.lt).alloc (.cells #[.int .i64 (takeJ s).1.par, .slice a2 n2 cap2] 24)
    have HK2 := Lib.hid ((hv.keep ((Below.refl w2.heap.size w2).alloc (Nat.le_refl _) (.cells #[.int .i64 (takeJ s).1.par, .slice a2 n2 cap2] 24))).mono (Nat.le_of_lt hd2.lt))
    have HK1' := Lib.hid ((HK1.out.keep ((hb2.mono hz1).alloc (Nat.le_trans hz1 hb2.size) (.cells #[.int .i64 (takeJ s).1.par, .slice a2 n2 cap2] 24))).mono (Nat.le_trans hz1 (Nat.le_trans hb2.size (Nat.le_of_lt hd2.lt))))
    have HSR := Lib.hid (Jb.same_refl (takeJ s).1)
    clear hv hb2 hc1 hd1
    go_upto_region 5 with fail
    generalize w2.alloc _ = W2 at *
    have x0 := hd1'.cell 0
    have x1 := hd1'.cell 1
    have y0 := hd2.cell 0
    have y1 := hd2.cell 1
    generalize (takeJ s).2 = e9 at *
    go_wp2_with fail
    refine (rJSame_c (takeJ s).1 (takeJ s).1 _ _ W2.heap.size W2 HK1'.out HK2.out (Nat.le_refl _)).mono ?_
    rintro e w3 ⟨rfl, hb3⟩
    rw [HSR.out]
    have hc3 := hc2.trans (hb3.mono hc2.size)
    go_wp2_with fail
    refine (pworks_c _).mono ?_
    rintro e w9 ⟨rfl, hq9⟩
    go_wp2_with fail
    go_ret
    exact ⟨rfl, hc3.trans (hq9.mono hc3.size)⟩

end Go.Proofs.Ytfieoehchghiiaa
