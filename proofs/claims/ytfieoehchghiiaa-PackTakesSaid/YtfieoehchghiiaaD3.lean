/-
  Walk: ref12.may.
-/
import Derived.Test.YtfieoehchghiiaaD2
namespace Go.Proofs.Ytfieoehchghiiaa
open Go.RowKit
set_option linter.unusedVariables false
set_option linter.unusedSimpArgs false

def kindOk (kd : Int) (len : Nat) (none : Bool) (is : Bool → Int → Bool) (n : Int) : Bool :=
  if kd = 1 then decide (len = 0) && (none && decide (n = 0))
  else if kd = 2 ∨ kd = 4 ∨ kd = 5 then decide (len = 1) && (is false 1 && decide (n = 0))
  else if kd = 3 then decide (len = 1) && (is false 2 && decide (n = 0))
  else if kd = 6 then decide (len = 1) && (is true 1 && decide (n = 0))
  else if kd = 7 then decide (len = 1) && (none && (decide (1 ≤ n) && decide (n ≤ 16)))
  else if kd = 8 then (decide (len = 2) || decide (len = 3)) && (none && decide (n = 0))
  else if kd = 9 then decide (len = 1) && (none && decide (n = 0))
  else false
theorem nodeB_ref (d : Nd) (at_ : Int) : nodeB d at_ = (nameB d.uid && (!d.ins.any (outB at_) && (!twiceB (fun x y => x == y) d.ins && kindOk d.kind d.ins.length (d.x.sameB (.mk 0 0 [])) d.x.isB d.n))) := by
  obtain ⟨u, k, ins, x, n⟩ := d
  unfold nodeB kindOk
  dsimp only
  generalize nameB u = b1
  generalize ins.any (outB at_) = b2
  generalize twiceB (fun x y => x == y) ins = b3
  generalize x.sameB (.mk 0 0 []) = b4
  generalize ins.length = len
  cases b1
  · simp
  have hk : k < 1 ∨ k = 1 ∨ k = 2 ∨ k = 3 ∨ k = 4 ∨ k = 5 ∨ k = 6 ∨ k = 7 ∨ k = 8 ∨ k = 9 ∨ 9 < k := by omega
  rcases hk with h | rfl | rfl | rfl | rfl | rfl | rfl | rfl | rfl | rfl | h
  · rw [decide_eq_true h, if_neg (by omega), if_neg (by omega), if_neg (by omega), if_neg (by omega), if_neg (by omega), if_neg (by omega), if_neg (by omega)]
    simp
  all_goals try
    cases b2 <;> cases b3 <;> simp [rLeast, rMost, rTy, rN, rM, rAcc]
    all_goals
      rw [Bool.eq_iff_iff]
      simp only [Bool.and_eq_true, Bool.or_eq_true, decide_eq_true_eq, Bool.not_eq_true', decide_eq_false_iff_not]
      constructor
      · intro h
        simp_all
        try omega
      · intro h
        simp_all
        try omega
  · rw [decide_eq_true h, if_neg (by omega), if_neg (by omega), if_neg (by omega), if_neg (by omega), if_neg (by omega), if_neg (by omega), if_neg (by omega)]
    simp

theorem twiceGo_snoc {α : Type} (p : α → α → Bool) (x : α) : ∀ (l s : List α), twiceGo p s (l ++ [x]) = (twiceGo p s l || (s ++ l).any (p x))
  | [], s => by simp [twiceGo]
  | y :: l, s => by
    simp only [List.cons_append, twiceGo]
    rw [twiceGo_snoc p x l (s ++ [y]), Bool.or_assoc, List.append_assoc, List.singleton_append]
theorem twiceB_snoc {α : Type} (p : α → α → Bool) (l : List α) (x : α) : twiceB p (l ++ [x]) = (twiceB p l || l.any (p x)) := by
  unfold twiceB
  rw [twiceGo_snoc, List.nil_append]
theorem twiceGo_pre {α : Type} (p : α → α → Bool) : ∀ (l s r : List α), twiceGo p s l = true → twiceGo p s (l ++ r) = true
  | y :: l, s, r, h => by
    simp only [List.cons_append, twiceGo, Bool.or_eq_true] at h ⊢
    exact h.imp id (twiceGo_pre p l _ r)
theorem twiceB_pre {α : Type} (p : α → α → Bool) (l : List α) (k : Nat) (h : twiceB p (l.take k) = true) : twiceB p l = true := by
  have := twiceGo_pre p (l.take k) [] (l.drop k) h
  rw [List.take_append_drop] at this
  exact this

set_option maxRecDepth 100000 in
set_option maxHeartbeats 8000000 in
theorem rmay_c (d : Nd) (hok : d.ok) (hus : d.uid.size ≤ 1000000) (at_ : Int) (v : Value) (B : Nat) (w : World) (hv : NdAt w B v d) (hB : B ≤ w.heap.size) :
    Calls Try.prog 84 #[v, .int .i64 at_] w fun e w' => e = .returned (.bool (nodeB d at_)) ∧ Below w.heap.size w w' := by
  have HNB := Lib.hid (nodeB_ref d at_)
  obtain ⟨iv, sv, rfl, ⟨hin, hs⟩, hu⟩ := hv
  obtain ⟨_, ai, capi, rfl, _, hcm, _⟩ := id hin
  obtain ⟨a2, cap2, rfl, _, _⟩ := hs.slice
  have HI := Lib.hid hin
  have HX : Hid (ExAt w B (.agg #[.int .u8 d.x.op, .int .i64 d.x.n, .slice a2 d.x.args.length cap2]) d.x) := ⟨_, rfl, hs⟩
  have HSM : Hid (∀ W, Below w.heap.size w W → Calls Try.prog 64 #[.agg #[.int .u8 d.x.op, .int .i64 d.x.n, .slice a2 d.x.args.length cap2], .agg #[.int .u8 0, .int .i64 0, .slice none 0 0]] W fun e w' => e = .returned (.bool (d.x.sameB (.mk 0 0 []))) ∧ Below W.heap.size W w') :=
    fun W h => rSame_c d.x (.mk 0 0 []) _ _ B W (HX.out.keep (h.mono hB)) ⟨_, rfl, .nil none 0 (Nat.zero_le _)⟩ (Nat.le_trans hB h.size)
  have HTY : Hid (∀ W acc ty, Below w.heap.size w W → Calls Try.prog 106 #[.agg #[.int .u8 d.x.op, .int .i64 d.x.n, .slice a2 d.x.args.length cap2], .bool acc, .int .u8 ty] W fun e w' => e = .returned (.bool (d.x.isB acc ty)) ∧ Below W.heap.size W w') :=
    fun W acc ty h => rtyped_c d.x hok.2.2.2.1 acc ty _ B W (HX.out.keep (h.mono hB)) (Nat.le_trans hB h.size)
  have hlm : d.ins.length ≤ 9223372036854775807 := by unfold maxLen at hcm; omega
  have hkr : 0 ≤ d.kind ∧ d.kind ≤ 255 := ⟨hok.1, hok.2.1⟩
  have HIR := Lib.hid hok.2.2.1
  clear hok hs hin hcm
  rename_i hx1
  clear hx1
  generalize nodeB d at_ = res at *
  generalize d.x.sameB (.mk 0 0 []) = nn at *
  generalize d.x.isB = is at *
  generalize d.x.op = xo at *
  generalize d.x.n = xn at *
  generalize d.x.args.length = xl at *
  generalize d.uid = u at *
  generalize d.kind = kd at *
  generalize d.n = n at *
  generalize d.ins = l at *
  clear HX
  have hN0 := Blk.new w #[.string u, .int .u8 kd, .slice ai l.length capi, .int .u8 xo, .int .i64 xn, .slice a2 xl cap2, .int .i64 n] 37
  have hW := (Below.refl w.heap.size w).alloc (Nat.le_refl _) (.cells #[.string u, .int .u8 kd, .slice ai l.length capi, .int .u8 xo, .int .i64 xn, .slice a2 xl cap2, .int .i64 n] 37)
  cases hn : nameB u
  · have HR : Hid (res = false) := by show _ = _; rw [HNB.out, hn]; rfl
    have HN := Lib.hid hn
    clear hn HNB
    go_enter Try.func84, Try.ntmps84
    go_upto_region 1 with fail
    generalize World.alloc w _ = W at *
    have c0 := hN0.cell 0
    go_wp2_with (go_at_call 105; refine (rName_c u _ hus).mono ?_; rintro e w1 ⟨rfl, hb1⟩; rw [HN.out])
    go_ret
    exact ⟨ret_bool HR.out.symm, hW.trans (hb1.mono hW.size)⟩
  · have HNB2 : Hid (res = (!l.any (outB at_) && (!twiceB (fun x y => x == y) l && kindOk kd l.length nn is n))) := by show _ = _; rw [HNB.out, hn]; rfl
    have HN := Lib.hid hn
    clear hn HNB
    go_enter Try.func84, Try.ntmps84
    go_upto_region 1 with fail
    generalize World.alloc w _ = W at *
    have c0 := hN0.cell 0
    have c2 := hN0.cell 2
    go_wp2_with (go_at_call 105; refine (rName_c u _ hus).mono ?_; rintro e w1 ⟨rfl, hb1⟩; rw [HN.out])
    have hN1 := hN0.below hb1 hN0.lt
    have hB1 := hW.trans (hb1.mono hW.size)
    clear c0 c2 hb1 hN0 hW
    go_loopw [5] (fun q wr => ∃ i : Nat, q = .int .i64 (i : Int) ∧ i ≤ l.length ∧ Below w.heap.size w wr ∧ Blk wr w.heap.size 37 #[.string u, .int .u8 kd, .slice ai l.length capi, .int .u8 xo, .int .i64 xn, .slice a2 xl cap2, .int .i64 n] ∧ (l.take i).any (outB at_) = false ∧ twiceB (fun x y => x == y) (l.take i) = false) (fun q _ => l.length - (intOf q).toNat)
    case atStart => exact ⟨0, rfl, Nat.zero_le _, hB1, hN1, rfl, rfl⟩
    case round =>
      obtain ⟨i, rfl, hi, hBr, hN, ho, ht⟩ := hrel
      have c2 := hN.cell 2
      clear hN1 hB1
      by_cases hlt : i < l.length
      · have hd1 : decide ((i : Int) < (l.length : Int)) = true := decide_eq_true (by omega)
        obtain ⟨b, off, cp, e1, hb, g1, p0⟩ := ((HI.out.mono hB).below hBr).int i hlt
        simp only [Value.slice.injEq, true_and] at e1
        obtain ⟨rfl, rfl⟩ := e1
        have HOT : Hid (outB at_ l[i] = true → res = false) := fun h => by
          have : l.any (outB at_) = true := List.any_eq_true.2 ⟨_, List.getElem_mem hlt, h⟩
          rw [HNB2.out, this]; rfl
        have HON : Hid (outB at_ l[i] = false → (l.take (i + 1)).any (outB at_) = false) := fun h => by
          rw [List.take_succ_eq_append_getElem hlt, List.any_append, ho]
          simp [h]
        have HTN : Hid (twiceB (fun x y => x == y) (l.take (i + 1)) = (l.take i).any (fun y => l[i] == y)) := by
          show _ = _
          rw [List.take_succ_eq_append_getElem hlt, twiceB_snoc, ht, Bool.false_or]
        have HTR : Hid (twiceB (fun x y => x == y) (l.take (i + 1)) = true → res = false) := fun h => by
          rw [HNB2.out, twiceB_pre _ _ _ h]
          cases l.any (outB at_) <;> rfl
        have hzr := HIR.out _ (List.getElem_mem hlt)
        have HZI : Hid (∀ k (hk : k < l.length), l[k]? = some (l[k]'hk)) := fun k hk => List.getElem?_eq_getElem hk
        obtain ⟨z, hzz⟩ : ∃ z, l[i] = z := ⟨_, rfl⟩
        have HZZ := Lib.hid hzz
        rw [hzz] at HOT HON HTN hzr p0
        clear hzz ho ht
        have HO : Hid (outB at_ z = (decide (z < 0) || decide (at_ ≤ z))) := rfl
        by_cases h0 : z < 0
        · have h0d : decide (z < 0) = true := decide_eq_true h0
          have HR := Lib.hid (HOT.out (by rw [HO.out, h0d]; rfl))
          go_wp2_with fail
          go_ret
          exact ⟨ret_bool HR.out.symm, hBr⟩
        · have h0d : decide (z < 0) = false := decide_eq_false h0
          by_cases ha : at_ ≤ z
          · have had : decide (at_ ≤ z) = true := decide_eq_true ha
            have had2 : decide (z < at_) = false := decide_eq_false (by omega)
            have HR := Lib.hid (HOT.out (by rw [HO.out, had]; simp))
            go_wp2_with fail
            go_ret
            exact ⟨ret_bool HR.out.symm, hBr⟩
          · have had : decide (at_ ≤ z) = false := decide_eq_false ha
            have had2 : decide (z < at_) = true := decide_eq_true (by omega)
            have HON2 := Lib.hid (HON.out (by rw [HO.out, h0d, had]; rfl))
            go_wp2_with fail
            go_loopw [6] (fun q wx => ∃ j m : Nat, q = .int .i64 (j : Int) ∧ j ≤ i ∧ wx = wr.drewN m ∧ (l.take j).any (fun y => z == y) = false) (fun q _ => i - (intOf q).toNat)
            case atStart => exact ⟨0, 0, rfl, Nat.zero_le _, rfl, rfl⟩
            case round =>
              obtain ⟨j, m, rfl, hj, rfl, hje⟩ := hrel
              by_cases hji : j < i
              · have hjd : decide ((j : Int) < (i : Int)) = true := decide_eq_true (by omega)
                have hjl : j < l.length := by omega
                obtain ⟨b', off', cp', e1, hb', g1', p0'⟩ := ((HI.out.mono hB).below hBr).int j hjl
                simp only [Value.slice.injEq, true_and, Option.some.injEq, Addr.mk.injEq, and_true] at e1
                obtain ⟨⟨rfl, rfl⟩, rfl⟩ := e1
                have HJT : Hid (l.take (j + 1) = l.take j ++ [l[j]]) := List.take_succ_eq_append_getElem hjl
                have HJI : Hid (z = l[j] → (l.take i).any (fun y => z == y) = true) := fun h => by
                  refine List.any_eq_true.2 ⟨l[j], ?_, by simp [h]⟩
                  exact List.mem_take_iff_getElem.2 ⟨j, by omega, rfl⟩
                obtain ⟨y, hyy⟩ : ∃ y, l[j] = y := ⟨_, rfl⟩
                rw [hyy] at HJT HJI p0'
                clear hyy
                by_cases hzy : z = y
                · have hb2 : (z == y) = true := by simpa using hzy
                  have HR := Lib.hid (HTR.out (by rw [HTN.out, HJI.out hzy]))
                  clear hzy
                  go_wp2_with fail
                  go_quiet (fail)
                  go_wp2_with fail
                  go_ret
                  exact ⟨ret_bool HR.out.symm, below_drewN (below_drewN hBr _) _⟩
                · have hb2 : (z == y) = false := by simpa using hzy
                  clear hzy
                  go_wp2_with fail
                  go_quiet (fail)
                  go_wp2_with fail
                  go_roundw
                  case rel => exact ⟨j + 1, m + nq, by go_num, by omega, rfl, by rw [HJT.out, List.any_append, hje]; simp [hb2]⟩
                  case measure => simp [intOf]; omega
              · have hjd : decide ((j : Int) < (i : Int)) = false := decide_eq_false (by omega)
                obtain rfl : j = i := by omega
                go_wp2_with fail
                go_roundw
                case rel => exact ⟨j + 1, by go_num, by omega, below_drewN hBr _, hN, HON2.out, by rw [HTN.out]; exact hje⟩
                case measure => simp [intOf]; omega
      · have hd1 : decide ((i : Int) < (l.length : Int)) = false := decide_eq_false (by omega)
        obtain rfl : i = l.length := by omega
        rw [List.take_length] at ho ht
        have HR : Hid (res = kindOk kd l.length nn is n) := by show _ = _; rw [HNB2.out, ho, ht]; rfl
        clear HNB2 ho ht HIR
        have c1 := hN.cell 1
        have c3 := hN.cell 3
        have c4 := hN.cell 4
        have c5 := hN.cell 5
        have c6 := hN.cell 6
        generalize hll : l.length = ln at *
        clear hll
        go_upto_region 14 with (go_at_call 64; refine (HSM.out _ hBr).mono ?_; rintro e w3 ⟨rfl, hb3⟩)
        have hB3 := hBr.trans (hb3.mono hBr.size)
        have hN3 := hN.below hb3 hN.lt
        clear c1 c2 c3 c4 c5 c6 hBr hN hb3
        have c1 := hN3.cell 1
        have c2 := hN3.cell 2
        have c3 := hN3.cell 3
        have c4 := hN3.cell 4
        have c5 := hN3.cell 5
        have c6 := hN3.cell 6
        have hk : kd = 1 ∨ kd = 2 ∨ kd = 3 ∨ kd = 4 ∨ kd = 5 ∨ kd = 6 ∨ kd = 7 ∨ kd = 8 ∨ kd = 9 ∨ (kd ≠ 1 ∧ kd ≠ 2 ∧ kd ≠ 3 ∧ kd ≠ 4 ∧ kd ≠ 5 ∧ kd ≠ 6 ∧ kd ≠ 7 ∧ kd ≠ 8 ∧ kd ≠ 9) := by omega
        rcases hk with rfl | rfl | rfl | rfl | rfl | rfl | rfl | rfl | rfl | ⟨k1, k2, k3, k4, k5, k6, k7, k8, k9⟩
        · skip
          by_cases h2 : ln = 0
          · subst h2
            cases nn
            · go_wp2_with fail
              go_ret
              exact ⟨ret_bool (by rw [HR.out]; simp [kindOk]; try rfl), hB3⟩
            · go_wp2_with fail
              go_ret
              exact ⟨ret_bool (by rw [HR.out]; simp [kindOk]; try rfl), hB3⟩
          · have q1 : ((ln : Int) == 0) = false := by rw [beq_eq_false_iff_ne]; omega
            go_wp2_with fail
            go_ret
            exact ⟨ret_bool (by rw [HR.out]; simp [kindOk, h2]), hB3⟩
        · skip
          by_cases h2 : ln = 1
          · subst h2
            cases hi2 : is false 1
            · have HI2 := Lib.hid hi2
              clear hi2
              go_wp2_with (go_at_call 106; refine (HTY.out _ false 1 hB3).mono ?_; rintro e w5 ⟨rfl, hb5⟩; rw [HI2.out]; have d6 := (hN3.below hb5 hN3.lt).cell 6)
              go_ret
              exact ⟨ret_bool (by rw [HR.out]; simp [kindOk, HI2.out]; try rfl), hB3.trans (hb5.mono hB3.size)⟩
            · have HI2 := Lib.hid hi2
              clear hi2
              go_wp2_with (go_at_call 106; refine (HTY.out _ false 1 hB3).mono ?_; rintro e w5 ⟨rfl, hb5⟩; rw [HI2.out]; have d6 := (hN3.below hb5 hN3.lt).cell 6)
              go_ret
              exact ⟨ret_bool (by rw [HR.out]; simp [kindOk, HI2.out]; try rfl), hB3.trans (hb5.mono hB3.size)⟩
          · have q1 : ((ln : Int) == 1) = false := by rw [beq_eq_false_iff_ne]; omega
            go_wp2_with fail
            go_ret
            exact ⟨ret_bool (by rw [HR.out]; simp [kindOk, h2]), hB3⟩
        · skip
          by_cases h2 : ln = 1
          · subst h2
            cases hi2 : is false 2
            · have HI2 := Lib.hid hi2
              clear hi2
              go_wp2_with (go_at_call 106; refine (HTY.out _ false 2 hB3).mono ?_; rintro e w5 ⟨rfl, hb5⟩; rw [HI2.out]; have d6 := (hN3.below hb5 hN3.lt).cell 6)
              go_ret
              exact ⟨ret_bool (by rw [HR.out]; simp [kindOk, HI2.out]; try rfl), hB3.trans (hb5.mono hB3.size)⟩
            · have HI2 := Lib.hid hi2
              clear hi2
              go_wp2_with (go_at_call 106; refine (HTY.out _ false 2 hB3).mono ?_; rintro e w5 ⟨rfl, hb5⟩; rw [HI2.out]; have d6 := (hN3.below hb5 hN3.lt).cell 6)
              go_ret
              exact ⟨ret_bool (by rw [HR.out]; simp [kindOk, HI2.out]; try rfl), hB3.trans (hb5.mono hB3.size)⟩
          · have q1 : ((ln : Int) == 1) = false := by rw [beq_eq_false_iff_ne]; omega
            go_wp2_with fail
            go_ret
            exact ⟨ret_bool (by rw [HR.out]; simp [kindOk, h2]), hB3⟩
        · skip
          by_cases h2 : ln = 1
          · subst h2
            cases hi2 : is false 1
            · have HI2 := Lib.hid hi2
              clear hi2
              go_wp2_with (go_at_call 106; refine (HTY.out _ false 1 hB3).mono ?_; rintro e w5 ⟨rfl, hb5⟩; rw [HI2.out]; have d6 := (hN3.below hb5 hN3.lt).cell 6)
              go_ret
              exact ⟨ret_bool (by rw [HR.out]; simp [kindOk, HI2.out]; try rfl), hB3.trans (hb5.mono hB3.size)⟩
            · have HI2 := Lib.hid hi2
              clear hi2
              go_wp2_with (go_at_call 106; refine (HTY.out _ false 1 hB3).mono ?_; rintro e w5 ⟨rfl, hb5⟩; rw [HI2.out]; have d6 := (hN3.below hb5 hN3.lt).cell 6)
              go_ret
              exact ⟨ret_bool (by rw [HR.out]; simp [kindOk, HI2.out]; try rfl), hB3.trans (hb5.mono hB3.size)⟩
          · have q1 : ((ln : Int) == 1) = false := by rw [beq_eq_false_iff_ne]; omega
            go_wp2_with fail
            go_ret
            exact ⟨ret_bool (by rw [HR.out]; simp [kindOk, h2]), hB3⟩
        · skip
          by_cases h2 : ln = 1
          · subst h2
            cases hi2 : is false 1
            · have HI2 := Lib.hid hi2
              clear hi2
              go_wp2_with (go_at_call 106; refine (HTY.out _ false 1 hB3).mono ?_; rintro e w5 ⟨rfl, hb5⟩; rw [HI2.out]; have d6 := (hN3.below hb5 hN3.lt).cell 6)
              go_ret
              exact ⟨ret_bool (by rw [HR.out]; simp [kindOk, HI2.out]; try rfl), hB3.trans (hb5.mono hB3.size)⟩
            · have HI2 := Lib.hid hi2
              clear hi2
              go_wp2_with (go_at_call 106; refine (HTY.out _ false 1 hB3).mono ?_; rintro e w5 ⟨rfl, hb5⟩; rw [HI2.out]; have d6 := (hN3.below hb5 hN3.lt).cell 6)
              go_ret
              exact ⟨ret_bool (by rw [HR.out]; simp [kindOk, HI2.out]; try rfl), hB3.trans (hb5.mono hB3.size)⟩
          · have q1 : ((ln : Int) == 1) = false := by rw [beq_eq_false_iff_ne]; omega
            go_wp2_with fail
            go_ret
            exact ⟨ret_bool (by rw [HR.out]; simp [kindOk, h2]), hB3⟩
        · skip
          by_cases h2 : ln = 1
          · subst h2
            cases hi2 : is true 1
            · have HI2 := Lib.hid hi2
              clear hi2
              go_wp2_with (go_at_call 106; refine (HTY.out _ true 1 hB3).mono ?_; rintro e w5 ⟨rfl, hb5⟩; rw [HI2.out]; have d6 := (hN3.below hb5 hN3.lt).cell 6)
              go_ret
              exact ⟨ret_bool (by rw [HR.out]; simp [kindOk, HI2.out]; try rfl), hB3.trans (hb5.mono hB3.size)⟩
            · have HI2 := Lib.hid hi2
              clear hi2
              go_wp2_with (go_at_call 106; refine (HTY.out _ true 1 hB3).mono ?_; rintro e w5 ⟨rfl, hb5⟩; rw [HI2.out]; have d6 := (hN3.below hb5 hN3.lt).cell 6)
              go_ret
              exact ⟨ret_bool (by rw [HR.out]; simp [kindOk, HI2.out]; try rfl), hB3.trans (hb5.mono hB3.size)⟩
          · have q1 : ((ln : Int) == 1) = false := by rw [beq_eq_false_iff_ne]; omega
            go_wp2_with fail
            go_ret
            exact ⟨ret_bool (by rw [HR.out]; simp [kindOk, h2]), hB3⟩
        · skip
          by_cases h2 : ln = 1
          · subst h2
            cases nn
            · go_wp2_with fail
              go_ret
              exact ⟨ret_bool (by rw [HR.out]; simp [kindOk]), hB3⟩
            · by_cases hn1 : 1 ≤ n
              · have hnd : decide (1 ≤ n) = true := decide_eq_true hn1
                go_wp2_with fail
                go_ret
                exact ⟨ret_bool (by rw [HR.out]; simp [kindOk, hn1]), hB3⟩
              · have hnd : decide (1 ≤ n) = false := decide_eq_false hn1
                go_wp2_with fail
                go_ret
                exact ⟨ret_bool (by rw [HR.out]; simp [kindOk, hn1]; try omega), hB3⟩
          · have q1 : ((ln : Int) == 1) = false := by rw [beq_eq_false_iff_ne]; omega
            go_wp2_with fail
            go_ret
            exact ⟨ret_bool (by rw [HR.out]; simp [kindOk, h2]), hB3⟩
        · skip
          by_cases h2 : ln = 2 ∨ ln = 3
          · have hr2 : (((ln : Int) == 2) = true) ∨ (((ln : Int) == 2) = false ∧ ((ln : Int) == 3) = true) := by
              rcases h2 with h | h
              · left; simp; omega
              · right; constructor
                · rw [beq_eq_false_iff_ne]; omega
                · simp; omega
            have hd2 : (decide (ln = 2) || decide (ln = 3)) = true := by simpa using h2
            clear h2
            rcases hr2 with q1 | ⟨q1, q2⟩
            all_goals
              cases nn
              · go_wp2_with fail
                go_ret
                exact ⟨ret_bool (by rw [HR.out]; simp [kindOk]), hB3⟩
              · go_wp2_with fail
                go_ret
                exact ⟨ret_bool (by rw [HR.out]; simp only [kindOk]; simp [hd2]; rfl), hB3⟩
          · have q1 : ((ln : Int) == 2) = false := by rw [beq_eq_false_iff_ne]; omega
            have q2 : ((ln : Int) == 3) = false := by rw [beq_eq_false_iff_ne]; omega
            have hd2 : (decide (ln = 2) || decide (ln = 3)) = false := by simp; omega
            clear h2
            go_wp2_with fail
            go_ret
            exact ⟨ret_bool (by rw [HR.out]; simp only [kindOk]; simp [hd2]), hB3⟩
        · skip
          by_cases h2 : ln = 1
          · subst h2
            cases nn
            · go_wp2_with fail
              go_ret
              exact ⟨ret_bool (by rw [HR.out]; simp [kindOk]; try rfl), hB3⟩
            · go_wp2_with fail
              go_ret
              exact ⟨ret_bool (by rw [HR.out]; simp [kindOk]; try rfl), hB3⟩
          · have q1 : ((ln : Int) == 1) = false := by rw [beq_eq_false_iff_ne]; omega
            go_wp2_with fail
            go_ret
            exact ⟨ret_bool (by rw [HR.out]; simp [kindOk, h2]), hB3⟩
        · have b1 : (kd == 1) = false := by simpa using k1
          have b2 : (kd == 2) = false := by simpa using k2
          have b3 : (kd == 3) = false := by simpa using k3
          have b4 : (kd == 4) = false := by simpa using k4
          have b5 : (kd == 5) = false := by simpa using k5
          have b6 : (kd == 6) = false := by simpa using k6
          have b7 : (kd == 7) = false := by simpa using k7
          have b8 : (kd == 8) = false := by simpa using k8
          have b9 : (kd == 9) = false := by simpa using k9
          go_wp2_with fail
          go_ret
          exact ⟨ret_bool (by rw [HR.out]; simp [kindOk, k1, k2, k3, k4, k5, k6, k7, k8, k9]), hB3⟩
end Go.Proofs.Ytfieoehchghiiaa
