/-
  Walks: slices.Equal at numbers, ref12.ints, job.Same, ref12.Same, job.Stateful.
-/
import Derived.Test.YtfieoehchghiiaaJ2
import Derived.Test.YtfieoehchghiiaaME
import Derived.Test.YtfieoehchghiiaaF1
namespace Go.Proofs.Ytfieoehchghiiaa
open Go.RowKit
set_option linter.unusedVariables false

def intsB : List Int → List Int → Bool
  | [], [] => true
  | x :: l, y :: m => (x == y) && intsB l m
  | _, _ => false
theorem intsB_len : ∀ (l m : List Int), l.length ≠ m.length → intsB l m = false
  | [], [], h => absurd rfl h
  | [], _ :: _, _ => rfl
  | _ :: _, [], _ => rfl
  | x :: l, y :: m, h => by simp only [intsB]; rw [intsB_len l m (by simpa using h), Bool.and_false]
theorem intsB_iff : ∀ (l m : List Int), intsB l m = true ↔ l = m
  | [], [] => by simp [intsB]
  | [], _ :: _ => by simp [intsB]
  | _ :: _, [] => by simp [intsB]
  | x :: l, y :: m => by simp [intsB, intsB_iff l m]

set_option maxHeartbeats 400000 in
theorem EqualInt_c (l1 l2 : List Int) (n1 n2 : Nat) (v1 v2 : Value) (B : Nat) (w : World) (h1 : Sl w B 1 v1 n1 (l1.map (Value.int .i64))) (h2 : Sl w B 1 v2 n2 (l2.map (Value.int .i64))) (hn1 : l1.length = n1) (hn2 : l2.length = n2) :
    Calls Try.prog 30 #[v1, v2] w fun e w' => e = .returned (.bool (intsB l1 l2)) ∧ ∃ n, w' = w.drewN n := by
  by_cases hl : n1 = n2
  · obtain rfl : n1 = n2 := hl
    obtain ⟨_, a1, cap1, rfl, hc1, hm1, _⟩ := id h1
    obtain ⟨_, a2, cap2, rfl, hc2, hm2, _⟩ := id h2
    have H1 := Lib.hid h1
    have H2 := Lib.hid h2
    have HN1 := Lib.hid hn1
    have HN2 := Lib.hid hn2
    have hnm : n1 ≤ 9223372036854775807 := by unfold maxLen at hm1; omega
    clear h1 h2 hn1 hn2
    rename_i hx1 hx2 hx3 hx4
    clear hx1 hx2 hx3 hx4
    go_enter Try.func30, Try.ntmps30
    go_wp2
    go_loopw [13] (fun i wr => ∃ k m : Nat, i = .int .i64 k ∧ k ≤ n1 ∧ wr = w.drewN m ∧ intsB (l1.drop k) (l2.drop k) = intsB l1 l2) (fun i _ => n1 - (intOf i).toNat)
    case atStart => exact ⟨0, 0, rfl, by omega, rfl, rfl⟩
    case round =>
      obtain ⟨k, m, rfl, hk, rfl, hr⟩ := hrel
      by_cases hlt : k < n1
      · obtain ⟨b1, o1, c1, e1, _, g1, p0⟩ := H1.out.int k hlt
        obtain ⟨b2, o2, c2, e2, _, g2, q0⟩ := H2.out.int k hlt
        simp only [Value.slice.injEq, true_and] at e1 e2
        obtain ⟨rfl, rfl⟩ := e1
        obtain ⟨rfl, rfl⟩ := e2
        rw [List.drop_eq_getElem_cons g1, List.drop_eq_getElem_cons g2] at hr
        generalize l1[k] = x at *
        generalize l2[k] = y at *
        simp only [intsB] at hr
        have HR := Lib.hid hr
        clear hr
        by_cases hxy : x = y
        · have HXY : Hid ((x == y) = true) := by simpa [Hid] using hxy
          have hq : (x != y) = false := by simpa using hxy
          clear hxy
          go_wp2
          go_quiet (fail)
          go_wp2
          go_roundw
          case rel => exact ⟨k + 1, m + nq, by go_num, by omega, rfl, by rw [← HR.out, HXY.out, Bool.true_and]⟩
          case measure => simp [intOf]; omega
        · have HXY : Hid ((x == y) = false) := by simpa [Hid] using hxy
          have hq : (x != y) = true := by simpa using hxy
          clear hxy
          go_wp2
          go_quiet (fail)
          go_wp2
          go_ret
          exact ⟨ret_bool (by rw [← HR.out, HXY.out]; rfl), _, World.drewN_drewN _ _ _⟩
      · have e1 : l1.drop k = [] := List.drop_of_length_le (by have := HN1.out; omega)
        have e2 : l2.drop k = [] := List.drop_of_length_le (by have := HN2.out; omega)
        rw [e1, e2] at hr
        have HR := Lib.hid hr
        clear hr e1 e2
        go_wp2
        go_ret
        exact ⟨ret_bool (by rw [← HR.out]; rfl), _, rfl⟩
  · obtain ⟨_, a1, cap1, rfl, hc1, hm1, _⟩ := h1
    obtain ⟨_, a2, cap2, rfl, hc2, hm2, _⟩ := h2
    rename_i hx1 hx2 hx3 hx4
    clear hx1 hx2 hx3 hx4
    have hne : ((n1 : Int) != (n2 : Int)) = true := by rw [bne_iff_ne]; omega
    have HE := Lib.hid (intsB_len l1 l2 (by omega))
    clear hn1 hn2
    go_enter Try.func30, Try.ntmps30
    go_wp2
    go_ret
    exact ⟨ret_bool HE.out.symm, 0, rfl⟩

def Nd.sameB (x y : Nd) : Bool := decide (x.uid = y.uid) && ((x.kind == y.kind) && ((x.n == y.n) && (intsB x.ins y.ins && x.x.sameB y.x)))
def Nds.sameB : List Nd → List Nd → Bool
  | [], [] => true
  | x :: l, y :: m => x.sameB y && Nds.sameB l m
  | _, _ => false
theorem Nds.sameB_len : ∀ (l m : List Nd), l.length ≠ m.length → Nds.sameB l m = false
  | [], [], h => absurd rfl h
  | [], _ :: _, _ => rfl
  | _ :: _, [], _ => rfl
  | x :: l, y :: m, h => by simp only [Nds.sameB]; rw [Nds.sameB_len l m (by simpa using h), Bool.and_false]
def Jb.sameB (x y : Jb) : Bool := (x.par == y.par) && Nds.sameB x.nodes y.nodes

theorem Nd.sameB_cases (x y : Nd) : ((x.uid = y.uid) ∧ (x.kind = y.kind) ∧ (x.n = y.n) ∧ intsB x.ins y.ins = true ∧ x.sameB y = x.x.sameB y.x) ∨
    (x.sameB y = false ∧ (¬ (x.uid = y.uid) ∨ (x.uid = y.uid ∧ ¬ x.kind = y.kind) ∨ (x.uid = y.uid ∧ x.kind = y.kind ∧ ¬ x.n = y.n) ∨ (x.uid = y.uid ∧ x.kind = y.kind ∧ x.n = y.n ∧ intsB x.ins y.ins = false))) := by
  unfold Nd.sameB
  by_cases h1 : x.uid = y.uid
  · by_cases h2 : x.kind = y.kind
    · by_cases h3 : x.n = y.n
      · cases h4 : intsB x.ins y.ins
        · simp [h1, h2, h3]
        · simp [h1, h2, h3]
      · simp [h1, h2, h3]
    · simp [h1, h2]
  · simp [h1]

set_option maxHeartbeats 1000000 in
theorem nsame_c (x y : Nd) (v u : Value) (B : Nat) (w : World) (hv : NdAt w B v x) (hu : NdAt w B u y) (hB : B ≤ w.heap.size) :
    Calls Try.prog 41 #[v, u] w fun e w' => e = .returned (.bool (x.sameB y)) ∧ Below w.heap.size w w' := by
  obtain ⟨iv, sv, rfl, ⟨hi, hs⟩, hu1⟩ := hv
  obtain ⟨jv, tv, rfl, ⟨hj, ht⟩, hu2⟩ := hu
  obtain ⟨_, ai, capi, rfl, hc1, hm1, _⟩ := id hi
  obtain ⟨_, bi, capj, rfl, hc2, hm2, _⟩ := id hj
  obtain ⟨ax, capx, rfl, _, _⟩ := hs.slice
  obtain ⟨bx, capy, rfl, _, _⟩ := ht.slice
  rename_i hx1 hx2 hx3 hx4 hx5 hx6
  have hW := ((Below.refl w.heap.size w).alloc (Nat.le_refl _) (.cells #[.string x.uid, .int .u8 x.kind, .slice ai x.ins.length capi, .int .u8 x.x.op, .int .i64 x.x.n, .slice ax x.x.args.length capx, .int .i64 x.n] 37)).alloc (by simp) (.cells #[.string y.uid, .int .u8 y.kind, .slice bi y.ins.length capj, .int .u8 y.x.op, .int .i64 y.x.n, .slice bx y.x.args.length capy, .int .i64 y.n] 37)
  have hwz : w.heap.size + 2 = ((w.alloc (.cells #[.string x.uid, .int .u8 x.kind, .slice ai x.ins.length capi, .int .u8 x.x.op, .int .i64 x.x.n, .slice ax x.x.args.length capx, .int .i64 x.n] 37)).alloc (.cells #[.string y.uid, .int .u8 y.kind, .slice bi y.ins.length capj, .int .u8 y.x.op, .int .i64 y.x.n, .slice bx y.x.args.length capy, .int .i64 y.n] 37)).heap.size := by simp
  have hNX := (Blk.new w #[.string x.uid, .int .u8 x.kind, .slice ai x.ins.length capi, .int .u8 x.x.op, .int .i64 x.x.n, .slice ax x.x.args.length capx, .int .i64 x.n] 37).alloc (.cells #[.string y.uid, .int .u8 y.kind, .slice bi y.ins.length capj, .int .u8 y.x.op, .int .i64 y.x.n, .slice bx y.x.args.length capy, .int .i64 y.n] 37)
  have hNY := Blk.new_at (w.alloc (.cells #[.string x.uid, .int .u8 x.kind, .slice ai x.ins.length capi, .int .u8 x.x.op, .int .i64 x.x.n, .slice ax x.x.args.length capx, .int .i64 x.n] 37)) #[.string y.uid, .int .u8 y.kind, .slice bi y.ins.length capj, .int .u8 y.x.op, .int .i64 y.x.n, .slice bx y.x.args.length capy, .int .i64 y.n] 37 (k := w.heap.size + 1) (by simp)
  have HI := Lib.hid hi
  have HJ := Lib.hid hj
  have HX : Hid (∀ X, Below w.heap.size w X → ExAt X X.heap.size (.agg #[.int .u8 x.x.op, .int .i64 x.x.n, .slice ax x.x.args.length capx]) x.x) := fun X hX => ⟨_, rfl, ((hs.mono hB).keep hX).mono hX.size⟩
  have HY : Hid (∀ X, Below w.heap.size w X → ExAt X X.heap.size (.agg #[.int .u8 y.x.op, .int .i64 y.x.n, .slice bx y.x.args.length capy]) y.x) := fun X hX => ⟨_, rfl, ((ht.mono hB).keep hX).mono hX.size⟩
  have hbi := bytes_inj x.uid y.uid
  have hcs := Nd.sameB_cases x y
  clear hi hj hs ht hx1 hx2 hx3 hx4 hx5 hx6 hu1 hu2 hc1 hc2 hm1 hm2
  have HCS := Lib.hid hcs
  clear hcs
  have HL1 : Hid (x.ins.length = x.ins.length) := rfl
  rcases HCS.out with ⟨h1, h2, h3, h4, hr⟩ | ⟨hr, hc⟩
  · have q1 : (x.uid.toList == y.uid.toList) = true := by simpa using hbi.2 h1
    have q2 : (x.kind == y.kind) = true := by simpa using h2
    have q3 : (x.n == y.n) = true := by simpa using h3
    have H4 := Lib.hid h4
    have HR := Lib.hid hr
    clear h1 h2 h3 h4 hr hbi
    go_enter Try.func41, Try.ntmps41
    go_wp2_with fail
    generalize World.alloc (World.alloc w _) _ = W at *
    have HWZ := Lib.hid hwz
    have hwz2 : w.heap.size + 2 ≤ W.heap.size := by omega
    have x0 := hNX.cell 0
    have x1 := hNX.cell 1
    have x2 := hNX.cell 2
    have x3 := hNX.cell 3
    have x4 := hNX.cell 4
    have x5 := hNX.cell 5
    have x6 := hNX.cell 6
    have y0 := hNY.cell 0
    have y1 := hNY.cell 1
    have y2 := hNY.cell 2
    have y3 := hNY.cell 3
    have y4 := hNY.cell 4
    have y5 := hNY.cell 5
    have y6 := hNY.cell 6
    clear hwz
    go_wp2_with (first
      | (go_at_call 30; refine (EqualInt_c x.ins y.ins _ _ _ _ B _ (HI.out.below (hW.mono hB)) (HJ.out.below (hW.mono hB)) rfl rfl).mono ?_; rintro e w3 ⟨rfl, nq, rfl⟩; rw [H4.out])
      | (go_at_call 42; refine (Same_c x.x y.x _ _ _ _ (HX.out _ (below_drewN hW nq)) (HY.out _ (below_drewN hW nq)) (Nat.le_refl _)).mono ?_; rintro e w4 ⟨rfl, hb4⟩))
    go_ret
    exact ⟨ret_bool HR.out.symm, (below_drewN hW nq).trans (hb4.mono (by simp; omega))⟩
  · have HR := Lib.hid hr
    clear hr HCS
    rcases hc with h1 | ⟨h1, h2⟩ | ⟨h1, h2, h3⟩ | ⟨h1, h2, h3, h4⟩
    · have q1 : (x.uid.toList == y.uid.toList) = false := by simpa using fun h => h1 (hbi.1 h)
      clear h1 hbi hNX hNY hwz
      go_enter Try.func41, Try.ntmps41
      go_wp2_with fail
      go_ret
      exact ⟨ret_bool HR.out.symm, hW⟩
    · have q1 : (x.uid.toList == y.uid.toList) = true := by simpa using hbi.2 h1
      have q2 : (x.kind == y.kind) = false := by simpa using h2
      clear h1 h2 hbi hNX hNY hwz
      go_enter Try.func41, Try.ntmps41
      go_wp2_with fail
      go_ret
      exact ⟨ret_bool HR.out.symm, hW⟩
    · have q1 : (x.uid.toList == y.uid.toList) = true := by simpa using hbi.2 h1
      have q2 : (x.kind == y.kind) = true := by simpa using h2
      have q3 : (x.n == y.n) = false := by simpa using h3
      clear h1 h2 h3 hbi hNX hNY hwz
      go_enter Try.func41, Try.ntmps41
      go_wp2_with fail
      go_ret
      exact ⟨ret_bool HR.out.symm, hW⟩
    · have q1 : (x.uid.toList == y.uid.toList) = true := by simpa using hbi.2 h1
      have q2 : (x.kind == y.kind) = true := by simpa using h2
      have q3 : (x.n == y.n) = true := by simpa using h3
      have H4 := Lib.hid h4
      clear h1 h2 h3 h4 hbi hNX hNY hwz
      go_enter Try.func41, Try.ntmps41
      go_wp2_with (go_at_call 30; refine (EqualInt_c x.ins y.ins _ _ _ _ B _ (HI.out.below (hW.mono hB)) (HJ.out.below (hW.mono hB)) rfl rfl).mono ?_; rintro e w3 ⟨rfl, nq, rfl⟩; rw [H4.out])
      go_ret
      exact ⟨ret_bool HR.out.symm, below_drewN hW nq⟩

set_option maxHeartbeats 1000000 in
theorem eqNodes_c (l m : List Nd) (v u : Value) (B : Nat) (w : World) (hv : NodesAt w B l v) (hu : NodesAt w B m u) (hB : B ≤ w.heap.size) :
    Calls Try.prog 40 #[v, u, .func (.func 41) #[] #[]] w fun e w' => e = .returned (.bool (Nds.sameB l m)) ∧ Below w.heap.size w w' := by
  obtain ⟨a, cap, rfl, hcap, hmx⟩ := hv.slice
  obtain ⟨a', cap', rfl, hcap', hmx'⟩ := hu.slice
  by_cases hlen : l.length = m.length
  · obtain ⟨n, hn⟩ : ∃ n, l.length = n := ⟨_, rfl⟩
    have hn' : m.length = n := by omega
    have HV := Lib.hid hv
    have HU := Lib.hid hu
    have HN := Lib.hid hn
    have HN' := Lib.hid hn'
    have hnm : n ≤ 9223372036854775807 := by unfold maxLen at hmx; omega
    rw [hn, hn']
    clear hv hu hn hn' hlen
    go_enter Try.func40, Try.ntmps40
    go_wp2
    go_loopw [17] (fun q wr => ∃ j : Nat, q = .int .i64 j ∧ j ≤ n ∧ Below w.heap.size w wr ∧ Nds.sameB (l.drop j) (m.drop j) = Nds.sameB l m) (fun q _ => n - (intOf q).toNat)
    case atStart => exact ⟨0, rfl, Nat.zero_le _, Below.refl _ _, rfl⟩
    case round =>
      obtain ⟨j, rfl, hj, hBr, hr⟩ := hrel
      by_cases hlt : j < n
      · have hj1 : j < l.length := by have := HN.out; omega
        have hj2 : j < m.length := by have := HN'.out; omega
        obtain ⟨b, off, cp, e1, hb, hu, iv, sv, c0, c1, c2, c3, c4, c5, c6, hin⟩ := ((HV.out.mono hB).keep hBr).at_ j hj1
        obtain ⟨b', off', cp', e2, hb', hu', iv', sv', d0, d1, d2, d3, d4, d5, d6, hin'⟩ := ((HU.out.mono hB).keep hBr).at_ j hj2
        rw [HN.out] at e1
        rw [HN'.out] at e2
        simp only [Value.slice.injEq, true_and] at e1 e2
        obtain ⟨rfl, rfl⟩ := e1
        obtain ⟨rfl, rfl⟩ := e2
        obtain ⟨a2, cap2, rfl, _, _⟩ := hin.2.slice
        obtain ⟨a3, cap3, rfl, _, _⟩ := hin'.2.slice
        obtain ⟨_, ai, capi, rfl, _, _, _⟩ := id hin.1
        obtain ⟨_, bi, capj, rfl, _, _, _⟩ := id hin'.1
        rw [List.drop_eq_getElem_cons hj1, List.drop_eq_getElem_cons hj2] at hr
        simp only [Nds.sameB] at hr
        have hbw := Nat.lt_of_lt_of_le hb hBr.size
        have hbw' := Nat.lt_of_lt_of_le hb' hBr.size
        generalize l[j] = x at *
        generalize m[j] = y at *
        have HX : Hid (∀ X, Below wr.heap.size wr X → NdAt X X.heap.size (.agg #[.string x.uid, .int .u8 x.kind, .slice ai x.ins.length capi, .int .u8 x.x.op, .int .i64 x.x.n, .slice a2 x.x.args.length cap2, .int .i64 x.n]) x) :=
          fun X hX => ⟨_, _, rfl, (hin.keep (hX.mono hBr.size)).mono (Nat.le_trans hBr.size hX.size), hu⟩
        have HY : Hid (∀ X, Below wr.heap.size wr X → NdAt X X.heap.size (.agg #[.string y.uid, .int .u8 y.kind, .slice bi y.ins.length capj, .int .u8 y.x.op, .int .i64 y.x.n, .slice a3 y.x.args.length cap3, .int .i64 y.n]) y) :=
          fun X hX => ⟨_, _, rfl, (hin'.keep (hX.mono hBr.size)).mono (Nat.le_trans hBr.size hX.size), hu'⟩
        have HR := Lib.hid hr
        rename_i hx1 hx2 hx3 hx4 hx5 hx6 hx7 hx8 hx9 hx10
        clear hr hin hin' hu hu' hx1 hx2 hx3 hx4 hx5 hx6 hx7 hx8 hx9 hx10
        cases hs : x.sameB y
        all_goals
          have HS := Lib.hid hs
          clear hs
          go_wp2_with (go_at_call 41; refine (nsame_c x y _ _ _ _ (HX.out _ (((Below.refl _ _).alloc (Nat.le_refl _) _).alloc (by simp) _)) (HY.out _ (((Below.refl _ _).alloc (Nat.le_refl _) _).alloc (by simp) _)) (Nat.le_refl _)).mono ?_; rintro e w3 ⟨rfl, hb3⟩; rw [HS.out])
        · go_ret
          exact ⟨ret_bool (by rw [← HR.out, HS.out]; rfl), ((hBr.alloc hBr.size _).alloc (by have := hBr.size; simp; omega) _).trans (hb3.mono (by have := hBr.size; simp; omega))⟩
        · go_roundw
          case rel => exact ⟨j + 1, by go_num, by omega, ((hBr.alloc hBr.size _).alloc (by have := hBr.size; simp; omega) _).trans (hb3.mono (by have := hBr.size; simp; omega)), by rw [← HR.out, HS.out, Bool.true_and]⟩
          case measure => simp [intOf]; omega
      · rw [List.drop_of_length_le (by have := HN.out; omega), List.drop_of_length_le (by have := HN'.out; omega)] at hr
        have HR := Lib.hid hr
        clear hr
        go_wp2
        go_ret
        exact ⟨ret_bool (by rw [← HR.out]; rfl), hBr⟩
  · have hne : ((l.length : Int) != (m.length : Int)) = true := by rw [bne_iff_ne]; omega
    have HF := Lib.hid (Nds.sameB_len l m hlen)
    clear hlen hv hu
    go_enter Try.func40, Try.ntmps40
    go_wp2
    go_ret
    exact ⟨ret_bool HF.out.symm, Below.refl _ _⟩

set_option maxHeartbeats 1000000 in
theorem JSame_c (x y : Jb) (v u : Value) (B : Nat) (w : World) (hv : JbAt w B v x) (hu : JbAt w B u y) (hB : B ≤ w.heap.size) :
    Calls Try.prog 16 #[v, u] w fun e w' => e = .returned (.bool (x.sameB y)) ∧ Below w.heap.size w w' := by
  obtain ⟨sv, rfl, hs⟩ := hv
  obtain ⟨tv, rfl, ht⟩ := hu
  obtain ⟨a, cap, rfl, hcap, hmx⟩ := hs.slice
  obtain ⟨a', cap', rfl, hcap', hmx'⟩ := ht.slice
  have HS := Lib.hid hs
  have HT := Lib.hid ht
  have HE : Hid (x.sameB y = ((x.par == y.par) && Nds.sameB x.nodes y.nodes)) := rfl
  have hW := ((Below.refl w.heap.size w).alloc (Nat.le_refl _) (.cells #[.int .i64 x.par, .slice a x.nodes.length cap] 24)).alloc (by simp) (.cells #[.int .i64 y.par, .slice a' y.nodes.length cap'] 24)
  clear hs ht
  cases hp : (x.par == y.par)
  · have HP := Lib.hid hp
    go_enter Try.func16, Try.ntmps16
    go_wp2
    go_ret
    exact ⟨ret_bool (by rw [HE.out, HP.out]; rfl), hW⟩
  · have HP := Lib.hid hp
    go_enter Try.func16, Try.ntmps16
    go_wp2_with (go_at_call 40; refine (eqNodes_c x.nodes y.nodes _ _ B _ (HS.out.keep (hW.mono hB)) (HT.out.keep (hW.mono hB)) (by have := hW.size; omega)).mono ?_; rintro e w3 ⟨rfl, hb3⟩)
    go_ret
    exact ⟨ret_bool (by rw [HE.out, HP.out]; rfl), hW.trans (hb3.mono hW.size)⟩

end Go.Proofs.Ytfieoehchghiiaa
