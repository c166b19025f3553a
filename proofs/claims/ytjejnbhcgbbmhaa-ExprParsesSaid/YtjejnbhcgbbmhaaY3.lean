/-
  The walk of ExprBlanks.
-/
import Derived.Test.YtjejnbhcgbbmhaaE12
import Derived.Test.YtjejnbhcgbbmhaaE2
import Derived.Test.YtjejnbhcgbbmhaaY1
import Derived.Test.YtjejnbhcgbbmhaaY2
namespace Go.Proofs.Ytjejnbhcgbbmhaa
open Go.RowKit
set_option linter.unusedVariables false

mutual
theorem Ex.sameB_self : ∀ x : Ex, x.sameB x = true
  | .mk o n l => by simp only [Ex.sameB]; rw [Exs.sameB_self l]; simp
theorem Exs.sameB_self : ∀ l : List Ex, Exs.sameB l l = true
  | [] => rfl
  | x :: l => by simp only [Exs.sameB]; rw [Ex.sameB_self x, Exs.sameB_self l]; rfl
end

theorem enc_32 : Utf8.encode 32 = { data := #[32] } := by decide +kernel
theorem wide_lone {r : Int} (h : lone r) (D : List Int) : encL ((D ++ [r]).flatMap wideR) = encL (D.flatMap wideR) ++ (({ data := #[32] } ++ Utf8.encode r) ++ { data := #[32] }) := by
  have hw : wideR r = [32, r, 32] := if_pos h
  rw [List.flatMap_append, encL_append]
  simp only [List.flatMap_cons, List.flatMap_nil, List.append_nil]
  rw [hw]
  simp only [encL]
  rw [app_empty, enc_32, ByteArray.append_assoc]
theorem wide_other {r : Int} (h : ¬ lone r) (D : List Int) : encL ((D ++ [r]).flatMap wideR) = encL (D.flatMap wideR) ++ Utf8.encode r := by
  have hw : wideR r = [r] := if_neg h
  rw [List.flatMap_append, encL_append]
  simp only [List.flatMap_cons, List.flatMap_nil, List.append_nil]
  rw [hw, encL_one]
theorem wide_len : ∀ D : List Int, (D.flatMap wideR).length ≤ 3 * D.length
  | [] => by simp
  | r :: D => by
    have := wide_len D
    have hw : (wideR r).length ≤ 3 := by unfold wideR; split <;> simp
    rw [List.flatMap_cons, List.length_append, List.length_cons]
    omega
theorem wide_size (D : List Int) : (encL (D.flatMap wideR)).size ≤ 12 * D.length := by
  have h1 := encL_size (D.flatMap wideR)
  have h2 := wide_len D
  omega
theorem wide_runes (s : ByteArray) : runes (encL ((runes s).flatMap wideR)) = (runes s).flatMap wideR := by
  refine runes_encL _ fun r hr => ?_
  obtain ⟨x, hx, hr⟩ := List.mem_flatMap.1 hr
  have hv := runesAt_valid s _ 0 rfl x hx
  unfold wideR at hr
  split at hr
  · simp only [List.mem_cons, List.not_mem_nil, or_false] at hr
    rcases hr with rfl | rfl | rfl
    · decide
    · exact hv
    · decide
  · simp only [List.mem_singleton] at hr
    rw [hr]
    exact hv

/-- Where the loop stands. -/
structure WideRel (s : ByteArray) (w : World) (v : Value) (wr : World) : Prop where
  ex : ∃ (pos : Nat) (D : List Int), wr = w.iter s pos ∧ v = .string (encL (D.flatMap wideR)) ∧ D ++ runesAt s pos = runes s

set_option maxHeartbeats 4000000 in
theorem eBlanks_c (s : ByteArray) (hs : s.size ≤ 140737488351232) (w : World) : Calls Try.prog 10 #[.string s] w fun e w' => e = .returned (.bool true) ∧ Below w.heap.size w w' := by
  go_enter Try.func10, Try.ntmps10
  go_wp2
  go_loopw [3] (fun v wr => WideRel s w v wr) (fun _ wr => s.size - wr.iterPos w.heap.size)
  case atStart => exact ⟨⟨0, [], rfl, rfl, rfl⟩⟩
  case round =>
    obtain ⟨pos, D, rfl, rfl, hD⟩ := hrel.ex
    clear hrel
    have hDl : D.length ≤ s.size := by
      have h1 := runesAt_length s 0
      have h2 := congrArg List.length hD
      rw [List.length_append] at h2
      unfold runes at h2
      omega
    have hz := wide_size D
    by_cases hp : pos < s.size
    · have hnx : ∀ ty, (Instr.next (.pointer (some ⟨w.heap.size, 0, none⟩)) true ty).run Try.prog (w.iter s pos) = _ := fun ty => run_next_any w s pos ty hp
      have hwd := Lib.decode_width_pos s pos hp
      rw [runesAt_step s pos hp] at hD
      generalize hR : ((Utf8.decode s pos).1 : Int) = r at *
      have HR := Lib.hid hR
      clear hR
      have he1 := encode_size r
      have he2 : ((({ data := #[32] } : ByteArray) ++ Utf8.encode r)).size ≤ 5 := by rw [ByteArray.size_append]; show 1 + _ ≤ 5; omega
      have he3 : (((({ data := #[32] } : ByteArray) ++ Utf8.encode r)) ++ ({ data := #[32] } : ByteArray)).size ≤ 6 := by rw [ByteArray.size_append]; show _ + 1 ≤ 6; omega
      by_cases hl : lone r
      · have HW := Lib.hid (wide_lone hl D)
        have HD : Hid ((D ++ [r]) ++ runesAt s (pos + (Utf8.decode s pos).2) = runes s) := by rw [List.append_assoc]; exact hD
        clear hD
        rcases hl with rfl | rfl | rfl | rfl | rfl
        all_goals
          go_wp2
          go_roundw
          case rel => exact ⟨⟨_, _, rfl, by rw [HW.out], HD.out⟩⟩
          case measure => simp; omega
      · have HW := Lib.hid (wide_other hl D)
        have HD : Hid ((D ++ [r]) ++ runesAt s (pos + (Utf8.decode s pos).2) = runes s) := by rw [List.append_assoc]; exact hD
        clear hD
        unfold lone at hl
        have h40 : (r == 40) = false := by rw [beq_eq_false_iff_ne]; omega
        have h41 : (r == 41) = false := by rw [beq_eq_false_iff_ne]; omega
        have h43 : (r == 43) = false := by rw [beq_eq_false_iff_ne]; omega
        have h42 : (r == 42) = false := by rw [beq_eq_false_iff_ne]; omega
        have h45 : (r == 45) = false := by rw [beq_eq_false_iff_ne]; omega
        go_wp2
        go_roundw
        case rel => exact ⟨⟨_, _, rfl, by rw [HW.out], HD.out⟩⟩
        case measure => simp; omega
    · have hnx : ∀ ty, (Instr.next (.pointer (some ⟨w.heap.size, 0, none⟩)) true ty).run Try.prog (w.iter s pos) = _ := fun ty => run_next_end w s pos ty hp
      rw [runesAt_end s pos hp, List.append_nil] at hD
      subst hD
      have hrt := wide_runes s
      generalize encL ((runes s).flatMap wideR) = t at *
      have hB1 := (Below.refl w.heap.size w).alloc (Nat.le_refl _) (.stringIter s pos)
      have hIT : w.iter s pos = w.alloc (.stringIter s pos) := rfl
      rw [hIT] at hnx ⊢
      clear hIT
      generalize w.alloc _ = W at *
      by_cases hg : s.size ≤ 400 ∧ t.size ≤ 400
      · obtain ⟨g1, g2⟩ := hg
        have hpw := parse_wide s t g1 g2 hrt
        have HP := Lib.hid (Parse_c s W)
        have HQ := Lib.hid (fun W => Parse_c t W)
        unfold ParsePost at HP HQ
        generalize parse s = p at *
        generalize parse t = q at *
        obtain ⟨x, pa, pe⟩ := p
        obtain ⟨y, qa, qe⟩ := q
        obtain ⟨rfl, rfl⟩ := hpw
        dsimp only at HP HQ ⊢
        have hpe : (pe == pe) = true := by simp
        have HSM := Lib.hid (Ex.sameB_self x)
        clear hrt hz hDl
        go_upto_region 11 with (go_at_call 24; refine HP.out.mono ?_; rintro e w1 ⟨sv, rfl, ha, hb⟩; obtain ⟨a1, c1, rfl, _, _⟩ := ha.slice)
        have hX := Blk.new w1 #[.int .u8 x.op, .int .i64 x.n, .slice a1 x.args.length c1] 28
        have hB2 := (hB1.trans (hb.mono hB1.size)).alloc (Nat.le_trans hB1.size hb.size) (.cells #[.int .u8 x.op, .int .i64 x.n, .slice a1 x.args.length c1] 28)
        have HX : Hid (ExAt (w1.alloc (.cells #[.int .u8 x.op, .int .i64 x.n, .slice a1 x.args.length c1] 28)) (w1.alloc (.cells #[.int .u8 x.op, .int .i64 x.n, .slice a1 x.args.length c1] 28)).heap.size (.agg #[.int .u8 x.op, .int .i64 x.n, .slice a1 x.args.length c1]) x) :=
          ⟨_, rfl, ArgsAt.step ha ((Below.refl _ _).alloc (Nat.le_refl _) _)⟩
        generalize hxb : w1.heap.size = xb at *
        generalize w1.alloc _ = W1 at *
        have HXB := Lib.hid hX
        have hxl := hX.lt
        clear hb ha hxb hX hB1
        go_upto_region 12 with (go_at_call 24; refine (HQ.out W1).mono ?_; rintro e w2 ⟨sv, rfl, ha, hb⟩; obtain ⟨a2, c2, rfl, _, _⟩ := ha.slice)
        have hX2 := (HXB.out.below hb hxl).alloc (.cells #[.int .u8 x.op, .int .i64 x.n, .slice a2 x.args.length c2] 28)
        have hY := Blk.new w2 #[.int .u8 x.op, .int .i64 x.n, .slice a2 x.args.length c2] 28
        have hB3 := (hB2.trans (hb.mono hB2.size)).alloc (Nat.le_trans hB2.size hb.size) (.cells #[.int .u8 x.op, .int .i64 x.n, .slice a2 x.args.length c2] 28)
        have hS := (Below.refl w2.heap.size w2).alloc (Nat.le_refl _) (.cells #[.int .u8 x.op, .int .i64 x.n, .slice a2 x.args.length c2] 28)
        have HY : Hid (ExAt (w2.alloc (.cells #[.int .u8 x.op, .int .i64 x.n, .slice a2 x.args.length c2] 28)) (w2.alloc (.cells #[.int .u8 x.op, .int .i64 x.n, .slice a2 x.args.length c2] 28)).heap.size (.agg #[.int .u8 x.op, .int .i64 x.n, .slice a2 x.args.length c2]) x) :=
          ⟨_, rfl, ArgsAt.step ha hS⟩
        have HX2 := Lib.hid (((HX.out.keep hb).keep (hS.mono hb.size)).mono (Nat.le_trans hb.size hS.size))
        generalize hyb : w2.heap.size = yb at *
        generalize w2.alloc _ = W2 at *
        have x0 := hX2.cell 0
        have x1 := hX2.cell 1
        have x2 := hX2.cell 2
        have y0 := hY.cell 0
        have y1 := hY.cell 1
        have y2 := hY.cell 2
        clear hb ha hyb hX2 hY hB2 HXB HX hS
        go_wp2_with (first | (go_at_call 31; refine (Same_c x x _ _ _ _ HX2.out HY.out (Nat.le_refl _)).mono ?_; rw [HSM.out]; rintro e w3 ⟨rfl, hb3⟩; have hB4 := hB3.trans (hb3.mono hB3.size)) | (go_at_call 25; refine (eworks_c _).mono ?_; rintro e w4 ⟨rfl, hb4⟩))
        go_ret
        exact ⟨rfl, hB4.trans (hb4.mono hB4.size)⟩
      · clear hrt
        have hz2 : t.size ≤ 4294967296000000000 := by omega
        by_cases h5 : s.size ≤ 5000
        · have h5' : ¬ (5000 : Int) < (s.size : Int) := by omega
          by_cases h4 : t.size ≤ 400
          · have h4' : ¬ (400 : Int) < (t.size : Int) := by omega
            have h6 : (400 : Int) < (s.size : Int) := by omega
            clear hg
            go_wp2_with (go_at_call 25; refine (eworks_c _).mono ?_; rintro e w4 ⟨rfl, hb4⟩)
            go_ret
            exact ⟨rfl, hB1.trans (hb4.mono hB1.size)⟩
          · have h4' : (400 : Int) < (t.size : Int) := by omega
            clear hg
            go_wp2_with (go_at_call 25; refine (eworks_c _).mono ?_; rintro e w4 ⟨rfl, hb4⟩)
            go_ret
            exact ⟨rfl, hB1.trans (hb4.mono hB1.size)⟩
        · have h5' : (5000 : Int) < (s.size : Int) := by omega
          clear hg
          go_wp2_with (go_at_call 25; refine (eworks_c _).mono ?_; rintro e w4 ⟨rfl, hb4⟩)
          go_ret
          exact ⟨rfl, hB1.trans (hb4.mono hB1.size)⟩

end Go.Proofs.Ytjejnbhcgbbmhaa
