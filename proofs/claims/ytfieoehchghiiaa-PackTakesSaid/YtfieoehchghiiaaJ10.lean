/-
  Walks: job.Readers, law12.three, law12.works, law12.Heavy.
-/
import Derived.Test.YtfieoehchghiiaaJ9
import Derived.Test.YtfieoehchghiiaaJ6
namespace Go.Proofs.Ytfieoehchghiiaa
open Go.RowKit
set_option linter.unusedVariables false

theorem may_len (jb : Jb) (h : jb.may.2 = 0) : jb.argB = false := by
  cases hb : jb.argB
  · rfl
  · unfold Jb.may at h
    rw [if_pos hb] at h
    simp at h
theorem may_len2 (jb : Jb) (h : jb.may.2 = 0) : jb.nodes.length ≤ 12 := by
  rcases argB_cases jb with ⟨hr, _⟩ | ⟨_, _, _, _, h4, _⟩
  · rw [may_len jb h] at hr; cases hr
  · exact h4

/-- What job.Readers tells. -/
def Jb.rds (j : Jb) (at_ : Int) : List Int := if j.may.2 = 0 then j.readers at_ else []

set_option maxHeartbeats 1000000 in
theorem Readers_c (jb : Jb) (at_ : Int) (v : Value) (B : Nat) (w : World) (hv : JbAt w B v jb) (hB : B ≤ w.heap.size) :
    Calls Try.prog 31 #[v, .int .i64 at_] w fun e w' => ∃ v', e = .returned v' ∧ Sl w' w'.heap.size 1 v' (jb.rds at_).length ((jb.rds at_).map (Value.int .i64)) ∧ Below w.heap.size w w' := by
  have HJ := Lib.hid hv
  obtain ⟨sv, rfl, hs⟩ := hv
  obtain ⟨a, cap, rfl, hcap, hmx⟩ := hs.slice
  have hW := (Below.refl w.heap.size w).alloc (Nat.le_refl _) (.cells #[.int .i64 jb.par, .slice a jb.nodes.length cap] 24)
  have hN := Blk.new w #[.int .i64 jb.par, .slice a jb.nodes.length cap] 24
  have HE : Hid (jb.rds at_ = if jb.may.2 = 0 then jb.readers at_ else []) := rfl
  have HLEN : Hid (jb.may.2 = 0 → jb.nodes.length ≤ 12) := may_len2 jb
  clear hs
  cases h0 : (jb.may.2 != 0)
  · have h00 : jb.may.2 = 0 := by simpa using h0
    have hl12 := HLEN.out h00
    have HE2 : Hid (jb.rds at_ = jb.readers at_) := by show _ = _; rw [HE.out, if_pos h00]
    have H0 := Lib.hid h0
    clear h0 h00
    go_enter Try.func31, Try.ntmps31
    go_wp2_with fail
    generalize World.alloc w _ = W at *
    have n0 := hN.cell 0
    have n1 := hN.cell 1
    go_wp2_with (first
      | (go_at_call 13; refine (May_c1 jb _ w.heap.size _ ((HJ.out.keep (hW.mono hB)).mono hB) hW.size).mono ?_; rintro e w1 ⟨rfl, hb1⟩; have h0 := H0.out; have hN1 := hN.below hb1 hN.lt; have m0 := hN1.cell 0; have m1 := hN1.cell 1)
      | (go_at_call 35; refine (readers_c jb at_ _ w.heap.size _ ((HJ.out.keep ((hW.trans (hb1.mono hW.size)).mono hB)).mono hB) (Nat.le_trans hW.size hb1.size) (by omega)).mono ?_; rintro e w2 ⟨v', rfl, hsl, hb2⟩; have HSL := Lib.hid hsl))
    go_ret
    refine ⟨v', rfl, ?_, hW.trans ((hb1.trans (hb2.mono hb1.size)).mono hW.size)⟩
    rw [HE2.out]
    exact HSL.out
  · have h00 : ¬ jb.may.2 = 0 := by simpa using h0
    have HE2 : Hid (jb.rds at_ = []) := by show _ = _; rw [HE.out, if_neg h00]
    have H0 := Lib.hid h0
    clear h0 h00
    go_enter Try.func31, Try.ntmps31
    go_wp2_with fail
    generalize World.alloc w _ = W at *
    have n0 := hN.cell 0
    have n1 := hN.cell 1
    go_wp2_with (go_at_call 13; refine (May_c1 jb _ w.heap.size _ ((HJ.out.keep (hW.mono hB)).mono hB) hW.size).mono ?_; rintro e w1 ⟨rfl, hb1⟩; have h0 := H0.out)
    go_ret
    refine ⟨_, rfl, ?_, hW.trans (hb1.mono hW.size)⟩
    rw [HE2.out]
    exact Sl.nil _ _ _

def sS : ByteArray := { data := #[115] }
def sM : ByteArray := { data := #[109] }
def sT : ByteArray := { data := #[116] }
def threeJ : Jb := ⟨2, [⟨{ data := #[115] }, 1, [], .mk 0 0 [], 0⟩, ⟨{ data := #[109] }, 2, [0], .mk 7 0 [.mk 3 0 [], .mk 1 1 []], 0⟩, ⟨{ data := #[116] }, 9, [1], .mk 0 0 [], 0⟩]⟩
theorem three_may : threeJ.may = (0, 0) := by kernel_rfl
theorem three_rds : threeJ.rds 0 = [1] := by kernel_rfl
theorem three_find : threeJ.find { data := #[116] } = 2 := by kernel_rfl

theorem Sl.one {w : World} {b : Nat} {t : TypeId} {x : Value} (h : Blk w b t #[x]) : Sl w w.heap.size 1 (.slice (some ⟨b, 0, none⟩) 1 1) 1 [x] :=
  ⟨rfl, some ⟨b, 0, none⟩, 1, rfl, Nat.le_refl _, by decide, .inr ⟨b, 0, rfl, h.lt, fun j hj => by rw [Nat.zero_add, h.cell j]; simp⟩⟩
theorem args_of {w : World} {b : Nat} {t : TypeId} {cs : Array Value} (hb : Blk w b t cs) (l : List Ex) (sv : Nat → Value)
    (hc : ∀ j (h : j < l.length), cs[j * 3]? = some (.int .u8 (l[j]'h).op) ∧ cs[j * 3 + 1]? = some (.int .i64 (l[j]'h).n) ∧ cs[j * 3 + 2]? = some (sv j)) (hs : ∀ j (h : j < l.length), ArgsAt w w.heap.size (l[j]'h).args (sv j)) (hl : l.length ≤ maxLen) :
    ArgsAt w w.heap.size l (.slice (some ⟨b, 0, none⟩) l.length l.length) := by
  by_cases h0 : l.length = 0
  · have : l = [] := List.length_eq_zero_iff.1 h0
    subst this
    exact .nil _ _ (Nat.zero_le _)
  · exact .cons l b 0 l.length sv (by omega) hb.lt (Nat.le_refl _) hl (fun j h => by rw [Nat.zero_add, hb.cell]; exact (hc j h).1) (fun j h => by rw [Nat.zero_add, hb.cell]; exact (hc j h).2.1) (fun j h => by rw [Nat.zero_add, hb.cell]; exact (hc j h).2.2) hs

/-- Where the job of 'three' lies, the last node's places being in the block bt. -/
structure Three (w : World) (b bm bt ba : Nat) (i : Int) : Prop where
  nodes : Blk w b 37 #[.string { data := #[115] }, .int .u8 1, .slice none 0 0, .int .u8 0, .int .i64 0, .slice none 0 0, .int .i64 0,
    .string { data := #[109] }, .int .u8 2, .slice (some ⟨bm, 0, none⟩) 1 1, .int .u8 7, .int .i64 0, .slice (some ⟨ba, 0, none⟩) 2 2, .int .i64 0,
    .string { data := #[116] }, .int .u8 9, .slice (some ⟨bt, 0, none⟩) 1 1, .int .u8 0, .int .i64 0, .slice none 0 0, .int .i64 0]
  m : Blk w bm 3 #[.int .i64 0]
  t : Blk w bt 3 #[.int .i64 i]
  a : Blk w ba 35 #[.int .u8 3, .int .i64 0, .slice none 0 0, .int .u8 1, .int .i64 1, .slice none 0 0]
def threeK (i : Int) : Jb := ⟨2, [⟨{ data := #[115] }, 1, [], .mk 0 0 [], 0⟩, ⟨{ data := #[109] }, 2, [0], .mk 7 0 [.mk 3 0 [], .mk 1 1 []], 0⟩, ⟨{ data := #[116] }, 9, [i], .mk 0 0 [], 0⟩]⟩

theorem Three.args {w : World} {b bm bt ba : Nat} {i : Int} (h : Three w b bm bt ba i) : ArgsAt w w.heap.size [.mk 3 0 [], .mk 1 1 []] (.slice (some ⟨ba, 0, none⟩) 2 2) := by
  refine args_of h.a [.mk 3 0 [], .mk 1 1 []] (fun _ => .slice none 0 0) (fun j hj => ?_) (fun j hj => ?_) (by decide)
  · match j, hj with
    | 0, _ => exact ⟨rfl, rfl, rfl⟩
    | 1, _ => exact ⟨rfl, rfl, rfl⟩
  · match j, hj with
    | 0, _ => exact .nil _ _ (Nat.zero_le _)
    | 1, _ => exact .nil _ _ (Nat.zero_le _)
theorem Three.at_ {w : World} {b bm bt ba : Nat} {i : Int} (h : Three w b bm bt ba i) : JbAt w w.heap.size (.agg #[.int .i64 2, .slice (some ⟨b, 0, none⟩) 3 3]) (threeK i) := by
  refine ⟨_, rfl, some ⟨b, 0, none⟩, 3, rfl, Nat.le_refl _, by decide, .inr ⟨b, 0, rfl, h.nodes.lt, fun j hj => ?_⟩⟩
  have g := fun j => h.nodes.cell j
  match j, hj with
  | 0, _ => exact ⟨(show (1 : Nat) ≤ maxLen by decide), .slice none 0 0, .slice none 0 0, g 0, g 1, g 2, g 3, g 4, g 5, g 6, Sl.nil _ _ _, .nil _ _ (Nat.zero_le _)⟩
  | 1, _ => exact ⟨(show (1 : Nat) ≤ maxLen by decide), .slice (some ⟨bm, 0, none⟩) 1 1, .slice (some ⟨ba, 0, none⟩) 2 2, g 7, g 8, g 9, g 10, g 11, g 12, g 13, Sl.one h.m, h.args⟩
  | 2, _ => exact ⟨(show (1 : Nat) ≤ maxLen by decide), .slice (some ⟨bt, 0, none⟩) 1 1, .slice none 0 0, g 14, g 15, g 16, g 17, g 18, g 19, g 20, Sl.one h.t, .nil _ _ (Nat.zero_le _)⟩

set_option maxHeartbeats 1000000 in
theorem three_c (w : World) : Calls Try.prog 29 #[] w fun e w' => ∃ b bm bt ba, e = .returned (.agg #[.int .i64 2, .slice (some ⟨b, 0, none⟩) 3 3]) ∧ Three w' b bm bt ba 1 ∧ w.heap.size ≤ b ∧ Below w.heap.size w w' := by
  go_enter Try.func29, Try.ntmps29
  go_wp2_with fail
  have h0 := Blk.new w #[.int .i64 2, .slice (some ⟨w.heap.size + 1 + 1 + 1 + 1 + 1, 0, none⟩) 3 3] 24
  refine bodyPost_ret (v := .agg #[.int .i64 2, .slice (some ⟨w.heap.size + 1 + 1 + 1 + 1 + 1, 0, none⟩) 3 3]) (results_cell_row rfl _ _ w.heap.size 24 _ (0, 0) _ rfl (((((h0.alloc _).alloc _).alloc _).alloc _).alloc _) Try.underlying24 rfl ?_) rfl ⟨_, _, _, _, rfl, ⟨Blk.new_at _ _ _ (by simp), ((Blk.new_at _ _ _ (by simp)).alloc _).alloc _, (Blk.new_at _ _ _ (by simp)).alloc _, ((((Blk.new_at _ _ _ (by simp)).alloc _).alloc _).alloc _).alloc _⟩, by omega, ?_⟩
  · as_aux_lemma => kernel_rfl
  · exact ((((((Below.refl _ _).alloc (Nat.le_refl _) _).alloc (by simp) _).alloc (by simp; omega) _).alloc (by simp; omega) _).alloc (by simp; omega) _).alloc (by simp; omega) _

def heavyGo : List Nd → Int → Bool
  | [], _ => false
  | d :: l, n => decide (40 < (d.ins.length : Int)) || (decide (1000 < (d.uid.size : Int)) || (decide (3000 < n + (d.x.size : Int)) || heavyGo l (n + (d.x.size : Int))))
/-- A job that is not gone through. -/
def Jb.heavyB (j : Jb) : Bool := decide (40 < (j.nodes.length : Int)) || heavyGo j.nodes 0

set_option maxHeartbeats 1000000 in
theorem Heavy_c (jb : Jb) (v : Value) (B : Nat) (w : World) (hv : JbAt w B v jb) (hB : B ≤ w.heap.size) :
    Calls Try.prog 11 #[v] w fun e w' => e = .returned (.bool jb.heavyB) ∧ Below w.heap.size w w' := by
  obtain ⟨sv, rfl, hs⟩ := hv
  obtain ⟨a, cap, rfl, hcap, hmx⟩ := hs.slice
  have HS := Lib.hid hs
  have hlm : jb.nodes.length ≤ 9223372036854775807 := by unfold maxLen at hmx; omega
  have HE : Hid (jb.heavyB = (decide (40 < (jb.nodes.length : Int)) || heavyGo jb.nodes 0)) := rfl
  generalize jb.heavyB = hv at *
  generalize jb.nodes = l at *
  generalize jb.par = par at *
  clear hs
  have hW := (Below.refl w.heap.size w).alloc (Nat.le_refl _) (.cells #[.int .i64 par, .slice a l.length cap] 24)
  cases h40 : decide (40 < (l.length : Int))
  · have HE2 : Hid (hv = heavyGo l 0) := by show _ = _; rw [HE.out, h40]; rfl
    have h40' : l.length ≤ 40 := by have := of_decide_eq_false h40; omega
    go_enter Try.func11, Try.ntmps11
    go_wp2_with fail
    generalize World.alloc w _ = W at *
    go_loopw [3, 13] (fun s q wr => ∃ (k : Nat) (n : Int), q = .int .i64 k ∧ s = .int .i64 n ∧ k ≤ l.length ∧ 0 ≤ n ∧ n ≤ 3000 ∧ Below w.heap.size w wr ∧ heavyGo (l.drop k) n = heavyGo l 0) (fun _ q _ => l.length - (intOf q).toNat)
    case atStart => exact ⟨0, 0, rfl, rfl, Nat.zero_le _, by omega, by omega, hW, rfl⟩
    case round =>
      obtain ⟨k, n, rfl, rfl, hk, hn0, hn1, hBr, hr⟩ := hrel
      by_cases hlt : k < l.length
      · obtain ⟨b, off, cp, e1, hb, hu, iv, sv, c0, c1, c2, c3, c4, c5, c6, hin⟩ := ((HS.out.mono hB).keep hBr).at_ k hlt
        simp only [Value.slice.injEq, true_and] at e1
        obtain ⟨rfl, rfl⟩ := e1
        obtain ⟨a2, cap2, rfl, _, _⟩ := hin.2.slice
        obtain ⟨_, ai, capi, rfl, _, _, _⟩ := id hin.1
        rw [List.drop_eq_getElem_cons hlt] at hr
        simp only [heavyGo] at hr
        have hx : ∀ X, Below wr.heap.size wr X → ExAt X X.heap.size (.agg #[.int .u8 (l[k]'hlt).x.op, .int .i64 (l[k]'hlt).x.n, .slice a2 (l[k]'hlt).x.args.length cap2]) (l[k]'hlt).x := fun X hX => ⟨_, rfl, (hin.2.keep (hX.mono hBr.size)).mono (Nat.le_trans hBr.size hX.size)⟩
        have hsz := Ex.size_le (l[k]'hlt).x
        generalize l[k] = y at *
        have HX := Lib.hid hx
        have HR := Lib.hid hr
        rename_i hx1 hx2 hx3
        clear hr hin hx hx1 hx2 hx3
        have hbw : w.heap.size ≤ wr.heap.size := hBr.size
        have hNn := Blk.new wr #[.string y.uid, .int .u8 y.kind, .slice ai y.ins.length capi, .int .u8 y.x.op, .int .i64 y.x.n, .slice a2 y.x.args.length cap2, .int .i64 y.n] 37
        have hBn := hBr.alloc hbw (.cells #[.string y.uid, .int .u8 y.kind, .slice ai y.ins.length capi, .int .u8 y.x.op, .int .i64 y.x.n, .slice a2 y.x.args.length cap2, .int .i64 y.n] 37)
        have hX2 := Lib.hid (HX.out _ ((Below.refl _ _).alloc (Nat.le_refl _) (.cells #[.string y.uid, .int .u8 y.kind, .slice ai y.ins.length capi, .int .u8 y.x.op, .int .i64 y.x.n, .slice a2 y.x.args.length cap2, .int .i64 y.n] 37)))
        generalize hzz : y.x.size = z at *
        have HZ := Lib.hid hzz
        clear hzz
        have hcs : (decide (40 < (y.ins.length : Int)) = true) ∨ (decide (40 < (y.ins.length : Int)) = false ∧ decide (1000 < (y.uid.size : Int)) = true) ∨ (decide (40 < (y.ins.length : Int)) = false ∧ decide (1000 < (y.uid.size : Int)) = false ∧ decide (3000 < n + (z : Int)) = true) ∨
            (decide (40 < (y.ins.length : Int)) = false ∧ decide (1000 < (y.uid.size : Int)) = false ∧ decide (3000 < n + (z : Int)) = false) := by
          cases decide (40 < (y.ins.length : Int)) <;> cases decide (1000 < (y.uid.size : Int)) <;> cases decide (3000 < n + (z : Int)) <;> simp
        rcases hcs with h1 | ⟨h1, h2⟩ | ⟨h1, h2, h3⟩ | ⟨h1, h2, h3⟩
        all_goals
          go_upto_region 7 with fail
          generalize World.alloc wr _ = W2 at *
          have n3 := hNn.cell 3
          have n4 := hNn.cell 4
          have n5 := hNn.cell 5
          go_wp2_with (go_at_call 23; refine (Size_c y.x _ _ _ hX2.out (Nat.le_refl _)).mono ?_; rintro e w3 ⟨rfl, hb3⟩; rw [HZ.out]; have hN3 := hNn.below hb3 hNn.lt; have m0 := hN3.cell 0; have m2 := hN3.cell 2)
        · go_ret
          exact ⟨ret_bool (by rw [HE2.out, ← HR.out, h1]; rfl), hBn.trans (hb3.mono hBn.size)⟩
        · go_ret
          exact ⟨ret_bool (by rw [HE2.out, ← HR.out, h1, h2]; rfl), hBn.trans (hb3.mono hBn.size)⟩
        · go_ret
          exact ⟨ret_bool (by rw [HE2.out, ← HR.out, h1, h2, h3]; rfl), hBn.trans (hb3.mono hBn.size)⟩
        · have h3' : n + (z : Int) ≤ 3000 := by have := of_decide_eq_false h3; omega
          go_roundw
          case rel => exact ⟨k + 1, n + (z : Int), by go_num, rfl, by omega, by omega, h3', hBn.trans (hb3.mono hBn.size), by rw [← HR.out, h1, h2, h3]; rfl⟩
          case measure => simp [intOf]; omega
      · rw [List.drop_of_length_le (by omega)] at hr
        have HR := Lib.hid hr
        clear hr
        go_wp2
        go_ret
        exact ⟨ret_bool (by rw [HE2.out, ← HR.out]; rfl), hBr⟩
  · have HE2 : Hid (hv = true) := by show _ = _; rw [HE.out, h40]; rfl
    go_enter Try.func11, Try.ntmps11
    go_wp2
    go_ret
    exact ⟨ret_bool HE2.out.symm, hW⟩

end Go.Proofs.Ytfieoehchghiiaa
