/-
  Walk: JobWhole.
-/
import Derived.Test.YtjejnbhcgbbmhaaJ14
import Derived.Deep.RegionHeld3
import Derived.RegionTactic
namespace Go.Proofs.Ytjejnbhcgbbmhaa
open Go.RowKit
set_option linter.unusedVariables false

def bools (F : List Bool) : Array Value := (F.map Value.bool).toArray
theorem bools_at (F : List Bool) (k : Nat) : (bools F)[k]? = (F[k]?).map Value.bool := by simp [bools]
theorem bools_set (F : List Bool) (k : Nat) (b : Bool) : (bools F).setIfInBounds k (.bool b) = bools (F.set k b) := by
  unfold bools
  rw [List.map_set]
  simp

/-- What lies there in JobWhole. -/
structure WR (w : World) (job : Array Value) (g1 g2 : Nat) (F G : List Bool) (wr : World) : Prop where
  below : Below w.heap.size w wr
  job : Blk wr w.heap.size 33 job
  f : Blk wr g1 4 (bools F)
  t : Blk wr g2 4 (bools G)
  ne : g1 ≠ g2
  l1 : w.heap.size < g1
  l2 : w.heap.size < g2
namespace WR
variable {w wr wx : World} {job : Array Value} {g1 g2 : Nat} {F G : List Bool}
theorem keep (h : WR w job g1 g2 F G wr) (hb : Below wr.heap.size wr wx) : WR w job g1 g2 F G wx :=
  ⟨h.below.trans (hb.mono h.below.size), h.job.below hb h.job.lt, h.f.below hb h.f.lt, h.t.below hb h.t.lt, h.ne, h.l1, h.l2⟩
theorem set1 (h : WR w job g1 g2 F G wr) (k : Nat) (b : Bool) : WR w job g1 g2 (F.set k b) G (wr.setCell ⟨g1, k, none⟩ (.bool b)) :=
  ⟨h.below.setCell (by show _ ≤ g1; have := h.l1; omega) _, h.job.other (p := ⟨g1, k, none⟩) (by show _ ≠ g1; have := h.l1; omega) _, by rw [← bools_set]; exact h.f.set k _, h.t.other (p := ⟨g1, k, none⟩) (Ne.symm h.ne) _, h.ne, h.l1, h.l2⟩
theorem set2 (h : WR w job g1 g2 F G wr) (k : Nat) (b : Bool) : WR w job g1 g2 F (G.set k b) (wr.setCell ⟨g2, k, none⟩ (.bool b)) :=
  ⟨h.below.setCell (by show _ ≤ g2; have := h.l2; omega) _, h.job.other (p := ⟨g2, k, none⟩) (by show _ ≠ g2; have := h.l2; omega) _, h.f.other (p := ⟨g2, k, none⟩) h.ne _, by rw [← bools_set]; exact h.t.set k _, h.ne, h.l1, h.l2⟩
theorem drew (h : WR w job g1 g2 F G wr) : WR w job g1 g2 F G wr.drew := ⟨h.below.drew, h.job, h.f, h.t, h.ne, h.l1, h.l2⟩
theorem start {w2 : World} (hc : Below w.heap.size w w2) (hd : Blk w2 w.heap.size 33 job) (F : List Bool) :
    WR w job w2.heap.size (w2.heap.size + 1) F F ((w2.alloc (.cells (bools F) 4)).alloc (.cells (bools F) 4)).drew := by
  have hl := hd.lt
  exact ⟨((hc.alloc (by omega) _).alloc (by simp; omega) _).drew, (hd.alloc _).alloc _, (Blk.new w2 _ _).alloc _, Blk.new_at (w2.alloc _) _ _ (by simp), by omega, by omega, by omega⟩
theorem swap {w2 : World} (hc : Below w.heap.size w w2) (hd : Blk w2 w.heap.size 33 job) (F : List Bool) :
    WR w job (w2.heap.size + 1) w2.heap.size F F ((w2.alloc (.cells (bools F) 4)).alloc (.cells (bools F) 4)).drew := by
  have hl := hd.lt
  exact ⟨((hc.alloc (by omega) _).alloc (by simp; omega) _).drew, (hd.alloc _).alloc _, Blk.new_at (w2.alloc _) _ _ (by simp), (Blk.new w2 _ _).alloc _, by omega, by omega, by omega⟩
theorem held {c1 c2 c3 c4 c5 : Option Value} {k bn o : Nat} (hbn : bn < w.heap.size)
    (h : (wr.cell? ⟨g1, k, none⟩ = c1 ∧ wr.cell? ⟨g2, k, none⟩ = c2 ∧ wr.cell? ⟨w.heap.size, 0, none⟩ = c3 ∧ wr.cell? ⟨w.heap.size, 1, none⟩ = c4 ∧ wr.cell? ⟨bn, o, none⟩ = c5) ∧ WR w job g1 g2 F G wr) (hb : Below wr.heap.size wr wx) :
    (wx.cell? ⟨g1, k, none⟩ = c1 ∧ wx.cell? ⟨g2, k, none⟩ = c2 ∧ wx.cell? ⟨w.heap.size, 0, none⟩ = c3 ∧ wx.cell? ⟨w.heap.size, 1, none⟩ = c4 ∧ wx.cell? ⟨bn, o, none⟩ = c5) ∧ WR w job g1 g2 F G wx := by
  obtain ⟨⟨h1, h2, h3, h4, h5⟩, hR⟩ := h
  exact ⟨⟨(hb.cell (p := ⟨g1, k, none⟩) hR.f.lt).trans h1, (hb.cell (p := ⟨g2, k, none⟩) hR.t.lt).trans h2, (hb.cell (p := ⟨w.heap.size, 0, none⟩) hR.job.lt).trans h3, (hb.cell (p := ⟨w.heap.size, 1, none⟩) hR.job.lt).trans h4,
    (hb.cell (p := ⟨bn, o, none⟩) (Nat.lt_of_lt_of_le hbn hR.below.size)).trans h5⟩, hR.keep hb⟩
end WR
theorem Reach.all {j : Jb} (hg : j.Good) {F : List Bool} (h : Reach j j.nodes.length F) (k : Nat) (hk : k < j.nodes.length) : F[k]? = some true :=
  Reach.here hg (i := k) ⟨h.1, fun k' hk' hc => h.2 k' hk' (hc.imp id (fun ⟨z, hz, hlt⟩ => ⟨z, hz, by omega⟩))⟩ hk

theorem make_bools (n : Nat) (h : 2 ≤ n ∧ n ≤ 12) (w : World) : (Instr.makeSlice 39 (.int .i64 (n : Int)) (.int .i64 (n : Int))).run Try.prog w = .ok (.slice (some ⟨w.heap.size, 0, none⟩) n n) (w.alloc (.cells (bools (List.replicate n false)) 4)) := by
  obtain rfl | rfl | rfl | rfl | rfl | rfl | rfl | rfl | rfl | rfl | rfl : n = 2 ∨ n = 3 ∨ n = 4 ∨ n = 5 ∨ n = 6 ∨ n = 7 ∨ n = 8 ∨ n = 9 ∨ n = 10 ∨ n = 11 ∨ n = 12 := by omega
  all_goals kernel_rfl

/-- A row of numbers lies apart from a row of bools. -/
theorem Sl.apart {w : World} {B n b off cap g : Nat} {t : TypeId} {zs : List Int} {F : List Bool} (h : Sl w B 1 (.slice (some ⟨b, off, none⟩) n cap) n (zs.map (Value.int .i64))) (hn : 0 < n) (hg : Blk w g t (bools F)) : b ≠ g := by
  intro e
  subst e
  obtain ⟨b', off', cap', e1, _, hl, c⟩ := h.int 0 hn
  simp only [Value.slice.injEq, Option.some.injEq, Addr.mk.injEq, and_true, true_and] at e1
  obtain ⟨⟨rfl, rfl⟩, rfl⟩ := e1
  rw [hg.cell, bools_at] at c
  cases hh : F[off + 0]? <;> rw [hh] at c <;> simp at c
theorem Sl.other {w : World} {B n g j : Nat} {a : Option Addr} {cap : Nat} {cs : List Value} (h : Sl w B 1 (.slice a n cap) n cs) (hne : ∀ b off, a = some ⟨b, off, none⟩ → 0 < n → b ≠ g) (u : Value) : Sl (w.setCell ⟨g, j, none⟩ u) B 1 (.slice a n cap) n cs := by
  obtain ⟨h1, a', cap', hv, h2, h3, h4⟩ := h
  simp only [Value.slice.injEq, true_and] at hv
  obtain ⟨rfl, rfl⟩ := hv
  refine ⟨h1, a, cap, rfl, h2, h3, ?_⟩
  rcases h4 with h4 | ⟨b, off, rfl, hb, hc⟩
  · exact .inl h4
  · by_cases h0 : n = 0
    · exact .inl h0
    · refine .inr ⟨b, off, rfl, hb, fun i hi => ?_⟩
      rw [← hc i hi]
      exact World.cell?_of_block (a := ⟨b, off + i, none⟩) (heap_setCell_other w ⟨g, j, none⟩ b u (hne b off rfl (by omega)))

set_option maxRecDepth 100000 in
set_option maxHeartbeats 8000000 in
theorem JobWhole_c (w : World) (jb : Jb) (v : Value) (gx : JbAt w w.heap.size v jb) (kx : jb.ok) :
    Calls Try.prog 4 #[v] w fun e w' => e = .returned (.bool true) ∧ Below w.heap.size w w' := by
  have GX := Lib.hid gx
  obtain ⟨sv, rfl, hs⟩ := gx
  obtain ⟨a, cap, rfl, hcap, hmx⟩ := hs.slice
  have HS := Lib.hid hs
  have hlm : jb.nodes.length ≤ 9223372036854775807 := by unfold maxLen at hmx; omega
  have hW := (Below.refl w.heap.size w).alloc (Nat.le_refl _) (.cells #[.int .i64 jb.par, .slice a jb.nodes.length cap] 33)
  have hb1 := Blk.new w #[.int .i64 jb.par, .slice a jb.nodes.length cap] 33
  clear hs hcap hmx kx
  have HRD : Hid (∀ (at_ : Int) (v : Value) (B : Nat) (w : World) (hv : JbAt w B v jb) (hB : B ≤ w.heap.size), Calls Try.prog 17 #[v, .int .i64 at_] w fun e w' => ∃ v', e = .returned v' ∧ Sl w' w'.heap.size 1 v' (jb.rds at_).length ((jb.rds at_).map (Value.int .i64)) ∧ Below w.heap.size w w') := fun at_ v B w hv hB => Readers_c jb at_ v B w hv hB
  cases hh : jb.heavyB
  · have HH := Lib.hid hh
    clear hh
    cases hm : (jb.may.2 != 0)
    · have hg := may_good jb (by simpa using hm)
      have HM := Lib.hid hm
      have hn2 := hg.n1
      have hn12 := hg.n2
      have HG := Lib.hid hg
      have HRG : Hid (∀ at_, jb.rds at_ = jb.readers at_) := Jb.rds_good hg
      have hmk := make_bools jb.nodes.length ⟨hn2, hn12⟩
      clear hm hg
      generalize jb.par = par at *
      generalize hl : jb.nodes.length = n at *
      have HL := Lib.hid hl
      clear hl
      obtain ⟨m, rfl⟩ : ∃ m, n = m + 1 := ⟨n - 1, by omega⟩
      have hmk2 : ∀ w, (Instr.makeSlice 39 (.int .i64 ((m : Int) + 1)) (.int .i64 ((m : Int) + 1))).run Try.prog w = .ok (.slice (some ⟨w.heap.size, 0, none⟩) (m + 1) (m + 1)) (w.alloc (.cells (bools (List.replicate (m + 1) false)) 4)) := fun w => hmk w
      clear hmk
      go_enter Try.func4, Try.ntmps4
      go_wp2_with fail
      generalize World.alloc w _ = W at *
      have n0 := hb1.cell 0
      have n1 := hb1.cell 1
      go_wp2_with fail
      refine (Heavy_c jb _ w.heap.size _ ((GX.out.keep hW)) hW.size).mono ?_
      rintro e w1 ⟨rfl, hq1⟩
      rw [HH.out]
      have hc1 := hW.trans (hq1.mono hW.size)
      have hd1 := hb1.below hq1 hb1.lt
      have m0 := hd1.cell 0
      have m1 := hd1.cell 1
      clear n0 n1
      go_wp2_with fail
      refine (May_c1 jb _ w.heap.size _ ((GX.out.keep hc1)) hc1.size).mono ?_
      rintro e w2 ⟨rfl, hq2⟩
      have hm2 := HM.out
      have hc2 := hc1.trans (hq2.mono hc1.size)
      have hd2 := hd1.below hq2 hd1.lt
      have o0 := hd2.cell 0
      have o1 := hd2.cell 1
      clear m0 m1 hq1 hq2 hd1 hb1 hW hc1
      go_upto_region 7 with fail
      clear o0 o1 hm2
      have hsz := hd2.lt
      go_cut [6, 7] (fun s6 s7 wx => ∃ g1 g2, s6 = .slice (some ⟨g1, 0, none⟩) (m + 1) (m + 1) ∧ s7 = .slice (some ⟨g2, 0, none⟩) (m + 1) (m + 1) ∧ WR w #[.int .i64 par, .slice a (m + 1) cap] g1 g2 (List.replicate (m + 1) false) (List.replicate (m + 1) false) wx)
      case first =>
        go_region
        all_goals
          go_wp2_with fail
          go_meet
          first
          | exact ⟨_, _, rfl, rfl, WR.start hc2 hd2 _⟩
          | exact ⟨_, _, rfl, rfl, WR.swap hc2 hd2 _⟩
      case rest =>
        obtain ⟨g1, g2, rfl, rfl, hR⟩ := hcut
        have f1 := (hR.f.cell 0).trans (bools_at _ _)
        have f2 := hR.f.free 0
        have t1 := (hR.t.cell m).trans (bools_at _ _)
        have t2 := hR.t.free m
        have hR2 := (hR.set1 0 true).set2 m true
        have hRe : Hid (Reach jb 0 ((List.replicate (m + 1) false).set 0 true)) := by
          refine ⟨by simp [HL.out], fun k hk hc => ?_⟩
          rcases hc with rfl | ⟨z, hz, hlt⟩
          · simp
          · have := (nodeB_in _ _ (HG.out.node k hk)).2.2.2 z hz
            omega
        have HT0 : Hid (((List.replicate (m + 1) false).set m true).length = m + 1 ∧ ((List.replicate (m + 1) false).set m true)[m]? = some true) := ⟨by simp, by simp⟩
        have hne := hR.ne
        generalize (List.replicate (m + 1) false).set 0 true = F0 at *
        generalize (List.replicate (m + 1) false).set m true = G0 at *
        have HR2 := Lib.hid hR2
        clear hR hR2
        simp only [List.getElem?_replicate] at f1 t1
        clear hc2 hd2 hsz hmk2
        go_wp2_with fail
        clear f1 f2 t1 t2
        go_loopw [40] (fun q wr => ∃ (i : Nat) (F : List Bool), q = .int .i64 i ∧ i ≤ m + 1 ∧ WR w #[.int .i64 par, .slice a (m + 1) cap] g1 g2 F G0 wr ∧ Reach jb i F) (fun q _ => m + 1 - (intOf q).toNat)
        case atStart => exact ⟨0, F0, rfl, by omega, HR2.out, hRe.out⟩
        case round =>
          clear HR2 hRe
          obtain ⟨i, F, rfl, hi, hR, hF⟩ := hrel
          have HF := Lib.hid hF
          have HR := Lib.hid hR
          clear hR hF
          by_cases hlt : i < m + 1
          · have j0 := HR.out.job.cell 0
            have j1 := HR.out.job.cell 1
            have hlo := HR.out.below.size
            go_wp2_with fail
            refine (HRD.out (i : Int) _ w.heap.size _ (GX.out.keep HR.out.below) hlo).mono ?_
            rintro e w5 ⟨v5, rfl, hsl5, hb5⟩
            rw [HRG.out] at hsl5
            obtain ⟨_, a5, cap5, rfl, hc5, hm5, _⟩ := id hsl5
            rename_i hx1 hx2
            have HB := Lib.hid (fun z hz => HG.out.behind i z hz)
            have HNX := Lib.hid (fun (F : List Bool) (h : Reach jb i F) => Reach.next h)
            have HSL5 := Lib.hid hsl5
            have HR5 := Lib.hid (HR.out.keep hb5)
            clear hsl5 hb5 hx1 hx2 j0 j1 hlo
            generalize jb.readers (i : Int) = R at *
            obtain ⟨rr, hrr⟩ : ∃ rr, R.length = rr := ⟨_, rfl⟩
            rw [hrr] at HSL5 hc5
            have hrm : rr ≤ 9223372036854775807 := by unfold maxLen at hm5; omega
            rw [hrr]
            have HRR := Lib.hid hrr
            clear hrr
            have hi0 : i < m + 1 := hlt
            go_wp2_with fail
            generalize w5.heap.size = B5 at *
            obtain ⟨wo, rfl⟩ : ∃ wo : World, wo = wr := ⟨_, rfl⟩
            go_loopw [47] (fun q wr => ∃ (k : Nat) (F' : List Bool), q = .int .i64 k ∧ k ≤ rr ∧ WR w #[.int .i64 par, .slice a (m + 1) cap] g1 g2 F' G0 wr ∧ Reach jb i F' ∧ Sl wr B5 1 (.slice a5 rr cap5) rr (R.map (Value.int .i64)) ∧ (∀ k' (h : k' < R.length), k' < k → F'[(R[k']'h).toNat]? = some true)) (fun q _ => rr - (intOf q).toNat)
            case atStart => exact ⟨0, F, rfl, Nat.zero_le _, HR5.out, HF.out, HSL5.out, fun k' h hk => absurd hk (Nat.not_lt_zero _)⟩
            case round =>
              obtain ⟨k, F', rfl, hk, hR', hF', hSl, hdone⟩ := hrel
              have HR' := Lib.hid hR'
              have HF' := Lib.hid hF'
              have HSl := Lib.hid hSl
              have HD := Lib.hid hdone
              clear hR' hF' hSl hdone
              by_cases hk2 : k < rr
              · obtain ⟨b5, o5, c5, e5, hbb, g5, p5⟩ := HSl.out.int k hk2
                simp only [Value.slice.injEq, true_and] at e5
                obtain ⟨rfl, rfl⟩ := e5
                have hz := HB.out (R[k]'g5) (List.getElem_mem g5)
                have hzz : Hid (∀ z : Nat, R[k]'g5 = (z : Int) → ∀ k' (h : k' < R.length), k' < k + 1 → (F'.set z true)[(R[k']'h).toNat]? = some true) := by
                  intro z hz' k' h' hk'
                  rw [List.getElem?_set]
                  split
                  · rw [if_pos]
                    have h1 := HF'.out.1
                    have h2 := HL.out
                    omega
                  · rename_i hne
                    by_cases e : k' = k
                    · subst e
                      exact absurd (by rw [hz']; simp) hne
                    · exact HD.out k' h' (by omega)
                generalize R[k] = z at *
                obtain ⟨zn, rfl⟩ : ∃ zn : Nat, z = zn := ⟨z.toNat, by omega⟩
                have HZZ := Lib.hid (hzz.out zn rfl)
                clear hzz
                have hzl : zn < m + 1 := by have := HL.out; omega
                have hnz : ¬ (zn : Int) ≤ (i : Int) := by omega
                have hci := HF'.out.here HG.out (by have := HL.out; omega : i < jb.nodes.length)
                have hlen : F'.length = m + 1 := by rw [HF'.out.1, HL.out]
                have x2 := (HR'.out.f.cell i).trans ((bools_at _ _).trans (by rw [hci]; rfl : _ = some (.bool true)))
                have hzF : zn < F'.length := by omega
                have x1 := (HR'.out.f.cell zn).trans ((bools_at _ _).trans (by rw [List.getElem?_eq_getElem hzF]; rfl : _ = some (.bool (F'[zn]'hzF))))
                have x3 := HR'.out.f.free zn
                have hap := HSl.out.apart (by omega) HR'.out.f
                have HS2 := Lib.hid (HSl.out.other (g := g1) (j := zn) (fun b off e h0 => by simp only [Option.some.injEq, Addr.mk.injEq, and_true] at e; rw [← e.1]; exact hap) (.bool true))
                have HR2 := Lib.hid (HR'.out.set1 zn true)
                generalize F'[zn]'hzF = bz at *
                clear hz hci hlen hap hzF
                cases bz
                all_goals
                  go_wp2_with fail
                  go_roundw
                  case rel => exact ⟨k + 1, F'.set zn true, by go_num, by omega, HR2.out, HF'.out.set zn, HS2.out, HZZ.out⟩
                  case measure => simp [intOf]; omega
              · have HN := Lib.hid (HNX.out F' HF'.out (fun z hz => by
                  obtain ⟨k', h', rfl⟩ := List.mem_iff_getElem.1 hz
                  exact HD.out k' h' (by have := HRR.out; omega)))
                go_wp2_with fail
                go_roundw
                case rel => exact ⟨i + 1, F', by go_num, by omega, HR'.out, HN.out⟩
                case measure => simp [intOf]; omega
          · have him := Lib.hid (show i = m + 1 by omega)
            have HFA : Hid (∀ k, k < m + 1 → F[k]? = some true) := fun k hk => by
              have h1 := HF.out
              rw [him.out, ← HL.out] at h1
              exact h1.all HG.out k (by rw [HL.out]; exact hk)
            have HFL : Hid (F.length = m + 1) := by show _ = _; rw [HF.out.1, HL.out]
            clear HF
            go_wp2_with fail
            obtain ⟨wo, rfl⟩ : ∃ wo : World, wo = wr := ⟨_, rfl⟩
            go_loopw [11] (fun q wr => ∃ (j : Nat) (G : List Bool), q = .int .i64 ((j : Int) - 1) ∧ j ≤ m + 1 ∧ WR w #[.int .i64 par, .slice a (m + 1) cap] g1 g2 F G wr ∧ G.length = m + 1 ∧ G[m]? = some true ∧ (∀ k, j ≤ k → k < m + 1 → G[k]? = some true)) (fun q _ => ((intOf q) + 1).toNat)
            case atStart => exact ⟨m + 1, G0, by go_num, by omega, HR.out, HT0.out.1, HT0.out.2, fun k h1 h2 => absurd h1 (by omega)⟩
            case round =>
              clear HR HT0
              obtain ⟨j, G, rfl, hj, hR, hgl, hgm, hgk⟩ := hrel
              have HR := Lib.hid hR
              have HGL := Lib.hid hgl
              have HGM := Lib.hid hgm
              have HGK := Lib.hid hgk
              clear hR hgl hgm hgk
              by_cases hj0 : 0 < j
              · obtain ⟨i, rfl⟩ : ∃ i, j = i + 1 := ⟨j - 1, by omega⟩
                rw [show (((i + 1 : Nat) : Int) - 1) = (i : Int) by omega]
                have hlt : i < m + 1 := by omega
                have j0 := HR.out.job.cell 0
                have j1 := HR.out.job.cell 1
                have hlo := HR.out.below.size
                go_wp2_with fail
                refine (HRD.out (i : Int) _ w.heap.size _ (GX.out.keep HR.out.below) hlo).mono ?_
                rintro e w5 ⟨v5, rfl, hsl5, hb5⟩
                rw [HRG.out] at hsl5
                obtain ⟨_, a5, cap5, rfl, hc5, hm5, _⟩ := id hsl5
                rename_i hx1 hx2
                have HB := Lib.hid (fun z hz => HG.out.behind i z hz)
                have HSH := Lib.hid ((HG.out.shape i (by have := HL.out; omega)).2)
                have HSL5 := Lib.hid hsl5
                have HR5 := Lib.hid (HR.out.keep hb5)
                clear hsl5 hb5 hx1 hx2 j0 j1 hlo
                generalize jb.readers (i : Int) = R at *
                obtain ⟨rr, hrr⟩ : ∃ rr, R.length = rr := ⟨_, rfl⟩
                rw [hrr] at HSL5 hc5
                have hrm : rr ≤ 9223372036854775807 := by unfold maxLen at hm5; omega
                rw [hrr]
                have HRR := Lib.hid hrr
                clear hrr
                go_wp2_with fail
                generalize w5.heap.size = B5 at *
                obtain ⟨wo2, rfl⟩ : ∃ wo : World, wo = wr := ⟨_, rfl⟩
                go_loopw [79] (fun q wr => ∃ (k : Nat) (G' : List Bool), q = .int .i64 k ∧ k ≤ rr ∧ WR w #[.int .i64 par, .slice a (m + 1) cap] g1 g2 F G' wr ∧ Sl wr B5 1 (.slice a5 rr cap5) rr (R.map (Value.int .i64)) ∧ G'.length = m + 1 ∧ G'[m]? = some true ∧
                    (∀ k, i + 1 ≤ k → k < m + 1 → G'[k]? = some true) ∧ (0 < k → G'[i]? = some true)) (fun q _ => rr - (intOf q).toNat)
                case atStart => exact ⟨0, G, rfl, Nat.zero_le _, HR5.out, HSL5.out, HGL.out, HGM.out, HGK.out, fun h => absurd h (Nat.lt_irrefl _)⟩
                case round =>
                  obtain ⟨k, G', rfl, hk, hR', hSl, hgl, hgm, hgk, hgi⟩ := hrel
                  have HR' := Lib.hid hR'
                  have HSl := Lib.hid hSl
                  have HGL' := Lib.hid hgl
                  have HGM' := Lib.hid hgm
                  have HGK' := Lib.hid hgk
                  have HGI' := Lib.hid hgi
                  clear hR' hSl hgl hgm hgk hgi
                  by_cases hk2 : k < rr
                  · obtain ⟨b5, o5, c5, e5, hbb, g5, p5⟩ := HSl.out.int k hk2
                    simp only [Value.slice.injEq, true_and] at e5
                    obtain ⟨rfl, rfl⟩ := e5
                    have hz := HB.out (R[k]'g5) (List.getElem_mem g5)
                    generalize R[k] = z at *
                    obtain ⟨zn, rfl⟩ : ∃ zn : Nat, z = zn := ⟨z.toNat, by omega⟩
                    have hzl : zn < m + 1 := by have := HL.out; omega
                    have hzg := HGK'.out zn (by omega) hzl
                    have hiF : i < G'.length := by have := HGL'.out; omega
                    have x1 := (HR'.out.t.cell zn).trans ((bools_at _ _).trans (by rw [hzg]; rfl : _ = some (.bool true)))
                    have x2 := (HR'.out.t.cell i).trans ((bools_at _ _).trans (by rw [List.getElem?_eq_getElem hiF]; rfl : _ = some (.bool (G'[i]'hiF))))
                    have x3 := HR'.out.t.free i
                    have hap := HSl.out.apart (by omega) HR'.out.t
                    have HS2 := Lib.hid (HSl.out.other (g := g2) (j := i) (fun b off e h0 => by simp only [Option.some.injEq, Addr.mk.injEq, and_true] at e; rw [← e.1]; exact hap) (.bool true))
                    have HR2 := Lib.hid (HR'.out.set2 i true)
                    have hset : ∀ k, (G'[k]? = some true ∨ (k = i ∧ k < G'.length)) → (G'.set i true)[k]? = some true := by
                      intro k h
                      by_cases e : i = k
                      · subst e
                        rw [List.getElem?_set_self hiF]
                      · rw [List.getElem?_set_ne e]
                        rcases h with h | ⟨h, _⟩
                        · exact h
                        · exact absurd h.symm e
                    have HSET := Lib.hid hset
                    generalize G'[i]'hiF = bz at *
                    clear hz hap hzg hset
                    cases bz
                    all_goals
                      go_wp2_with fail
                      go_roundw
                      case rel => exact ⟨k + 1, G'.set i true, by go_num, by omega, HR2.out, HS2.out, by have := HGL'.out; simpa using this, HSET.out m (.inl HGM'.out), fun k h1 h2 => HSET.out k (.inl (HGK'.out k h1 h2)), fun _ => HSET.out i (.inr ⟨rfl, hiF⟩)⟩
                      case measure => simp [intOf]; omega
                  · have HN : Hid (∀ k, i ≤ k → k < m + 1 → G'[k]? = some true) := fun q h1 h2 => by
                      by_cases e : q = i
                      · subst e
                        by_cases e2 : q = m
                        · rw [e2]; exact HGM'.out
                        · refine HGI'.out ?_
                          have h3 := HSH.out
                          have h4 := HRR.out
                          have h5 := HL.out
                          omega
                      · exact HGK'.out q (by omega) h2
                    go_wp2_with fail
                    go_roundw
                    case rel => exact ⟨i, G', by go_num, by omega, HR'.out, HGL'.out, HGM'.out, HN.out⟩
                    case measure => simp [intOf]
              · have hj00 := Lib.hid (show j = 0 by omega)
                have HGA : Hid (∀ k, k < m + 1 → G[k]? = some true) := fun k hk => HGK.out k (by rw [hj00.out]; exact Nat.zero_le _) hk
                clear HGK HGM
                go_wp2_with fail
                obtain ⟨wo2, rfl⟩ : ∃ wo : World, wo = wr := ⟨_, rfl⟩
                go_loopw [98] (fun q wr => ∃ (k : Nat), q = .int .i64 k ∧ k ≤ m + 1 ∧ WR w #[.int .i64 par, .slice a (m + 1) cap] g1 g2 F G wr) (fun q _ => m + 1 - (intOf q).toNat)
                case atStart => exact ⟨0, rfl, Nat.zero_le _, HR.out⟩
                case round =>
                  clear HR
                  obtain ⟨k, rfl, hk, hR⟩ := hrel
                  have HR := Lib.hid hR
                  clear hR
                  by_cases hlt : k < m + 1
                  · have hkl : k < jb.nodes.length := by have := HL.out; omega
                    obtain ⟨bn, off, cp, e1, hbn, hu, iv, sv, c0, c1, c2, c3, c4, c5, c6, hin⟩ := (HS.out.keep HR.out.below).at_ k hkl
                    rw [HL.out] at e1
                    simp only [Value.slice.injEq, true_and] at e1
                    obtain ⟨rfl, rfl⟩ := e1
                    have HFD := Lib.hid (HG.out.finds k hkl)
                    generalize (jb.nodes[k]'hkl).uid = uid at *
                    have x1 := (HR.out.f.cell k).trans ((bools_at _ _).trans (by rw [HFA.out k hlt]; rfl : _ = some (.bool true)))
                    have x2 := (HR.out.t.cell k).trans ((bools_at _ _).trans (by rw [HGA.out k hlt]; rfl : _ = some (.bool true)))
                    have j0 := HR.out.job.cell 0
                    have j1 := HR.out.job.cell 1
                    have HS0 := Lib.hid (And.intro (And.intro x1 (And.intro x2 (And.intro j0 (And.intro j1 c0)))) HR.out)
                    have hbnl := Nat.lt_of_lt_of_le hbn HR.out.below.size
                    clear x1 x2 j0 j1 c0 c1 c2 c3 c4 c5 c6 hin hu
                    go_upto_region 31 with fail
                    go_region_held3 (fun w' => (w'.cell? ⟨g1, k, none⟩ = some (.bool true) ∧ w'.cell? ⟨g2, k, none⟩ = some (.bool true) ∧ w'.cell? ⟨w.heap.size, 0, none⟩ = some (.int .i64 par) ∧ w'.cell? ⟨w.heap.size, 1, none⟩ = some (.slice (some ⟨bn, off, none⟩) (m + 1) cap) ∧
                        w'.cell? ⟨bn, off + k * 7, none⟩ = some (.string uid)) ∧ WR w #[.int .i64 par, .slice (some ⟨bn, off, none⟩) (m + 1) cap] g1 g2 F G w')
                      (first | exact ⟨HS0.out.1, HS0.out.2.drew⟩ | (refine WR.held hbn ?_ (by assumption); assumption))
                      (first | (go_at_call 18; refine (Find_c jb uid _ w.heap.size _ (GX.out.keep (WR.below (And.right (by assumption)))) (Below.size (WR.below (And.right (by assumption))))).mono ?_; rintro e w9 ⟨rfl, hq9⟩; rw [HFD.out]))
                    all_goals
                      go_wp2_with fail
                      go_roundw
                      case rel => exact ⟨k + 1, by go_num, by omega, And.right (by assumption)⟩
                      case measure => simp [intOf]; omega
                  · have hBf := HR.out.below
                    go_wp2_with (go_at_call 16; refine (jworks_c _).mono ?_; rintro e w9 ⟨rfl, hq9⟩)
                    go_ret
                    exact ⟨rfl, hBf.trans (hq9.mono hBf.size)⟩
    · have HM := Lib.hid hm
      clear hm
      go_enter Try.func4, Try.ntmps4
      go_wp2_with fail
      generalize World.alloc w _ = W at *
      have n0 := hb1.cell 0
      have n1 := hb1.cell 1
      go_wp2_with fail
      refine (Heavy_c jb _ w.heap.size _ ((GX.out.keep hW)) hW.size).mono ?_
      rintro e w1 ⟨rfl, hq1⟩
      rw [HH.out]
      have hc1 := hW.trans (hq1.mono hW.size)
      have hd1 := hb1.below hq1 hb1.lt
      have m0 := hd1.cell 0
      have m1 := hd1.cell 1
      clear n0 n1
      go_wp2_with fail
      refine (May_c1 jb _ w.heap.size _ ((GX.out.keep hc1)) hc1.size).mono ?_
      rintro e w2 ⟨rfl, hq2⟩
      have hm2 := HM.out
      have hc2 := hc1.trans (hq2.mono hc1.size)
      go_wp2_with (go_at_call 16; refine (jworks_c _).mono ?_; rintro e w9 ⟨rfl, hq9⟩)
      go_ret
      exact ⟨rfl, hc2.trans (hq9.mono hc2.size)⟩
  · have HH := Lib.hid hh
    clear hh
    go_enter Try.func4, Try.ntmps4
    go_wp2_with fail
    generalize World.alloc w _ = W at *
    have n0 := hb1.cell 0
    have n1 := hb1.cell 1
    go_wp2_with fail
    refine (Heavy_c jb _ w.heap.size _ ((GX.out.keep hW)) hW.size).mono ?_
    rintro e w1 ⟨rfl, hq1⟩
    rw [HH.out]
    have hc1 := hW.trans (hq1.mono hW.size)
    clear n0 n1
    go_wp2_with (go_at_call 16; refine (jworks_c _).mono ?_; rintro e w9 ⟨rfl, hq9⟩)
    go_ret
    exact ⟨rfl, hc1.trans (hq9.mono hc1.size)⟩

end Go.Proofs.Ytjejnbhcgbbmhaa
