/-
  The walk of ExprParens.
-/
import Derived.Test.YtjejnbhcgbbmhaaY3
import Derived.Test.YtjejnbhcgbbmhaaSR
import Derived.Test.YtjejnbhcgbbmhaaP9
namespace Go.Proofs.Ytjejnbhcgbbmhaa
open Go.RowKit
set_option linter.unusedVariables false

theorem repeatL_one (b : UInt8) : ∀ k : Nat, Lib.repeatL [b] k = List.replicate k b
  | 0 => rfl
  | k + 1 => by
    have := repeatL_one b k
    simp only [Lib.repeatL, List.replicate_succ, List.singleton_append]
    rw [this]
theorem repeat_c (b : UInt8) (k : Nat) (hk : k ≤ 5) (w : World) : Calls Try.prog 37 #[.string { data := #[b] }, .int .i64 k] w fun e w' => e = .returned (.string (bytesOf b k)) ∧ Below w.heap.size w w' := by
  have h := Try.strings_Repeat { data := #[b] } k w (by omega) (by show 1 * k ≤ _; omega)
  have he : (⟨(Lib.repeatL ({ data := #[b] } : ByteArray).data.toList k).toArray⟩ : ByteArray) = bytesOf b k := by
    unfold bytesOf
    rw [show ({ data := #[b] } : ByteArray).data.toList = [b] from rfl, repeatL_one]
  rw [he] at h
  exact h

theorem endTok_at (t : Tok) (M : Int) : ∀ (rs : List Int) (t : Tok) (pos : Int) (out : List Tok), t.at_ ≤ M → pos + rs.length ≤ M → 0 ≤ M → (tokGo t pos out rs).2.1 ≤ M
  | [], t, pos, out, h1, h2, h3 => by
    simp only [tokGo]
    cases endTok t out with
    | none => exact h1
    | some o => exact h3
  | r :: rs, t, pos, out, h1, h2, h3 => by
    have h4 : pos + 1 + rs.length ≤ M := by simp at h2; omega
    simp only [tokGo]
    split
    · exact endTok_at t M rs _ _ _ h1 h4 h3
    · cases endTok t out with
      | none => exact h1
      | some o =>
        dsimp only
        split
        · exact endTok_at t M rs _ _ _ h3 h4 h3
        · split
          · show pos + 1 ≤ M; omega
          · exact endTok_at t M rs _ _ _ (by show pos + 1 ≤ M; omega) h4 h3
theorem toks_at (s : ByteArray) : (toks s).2.1 ≤ s.size := by
  have hl := runesAt_length s 0
  unfold toks
  split
  · show (0 : Int) ≤ _; omega
  · refine endTok_at Tok.zero _ _ _ _ _ (by show (0 : Int) ≤ _; omega) ?_ (by omega)
    unfold runes
    omega
theorem parse_at {s : ByteArray} (h80 : (parse s).2.2 ≠ 80) : (parse s).2.1 ≤ s.size := by
  have ht := toks_at s
  unfold parse at h80 ⊢
  split
  · exact ht
  · rename_i h
    rw [if_neg h] at h80
    have := parseEnd_not80 h80
    rw [this]
    unfold parseEnd
    simp only [if_true]
    split <;> (show (0 : Int) ≤ _; omega)

theorem parens_none (s : ByteArray) : bytesOf 40 0 ++ s ++ bytesOf 41 0 = s := by
  show ({ data := #[] } : ByteArray) ++ s ++ ({ data := #[] } : ByteArray) = s
  rw [empty_app, app_empty]

set_option maxRecDepth 100000 in
set_option maxHeartbeats 4000000 in
theorem eParens_c (s : ByteArray) (m : Int) (hs : s.size ≤ 140737488351232) (wm : (Lit.int .u8 m).wf = true) (w : World) :
    Calls Try.prog 13 #[.string s, .int .u8 m] w fun e w' => e = .returned (.bool true) ∧ Below w.heap.size w w' := by
  have hm : 0 ≤ m ∧ m ≤ 255 := by simpa [Lit.wf, IntKind.min, IntKind.max, IntKind.signed, IntKind.bits] using wm
  obtain ⟨h0, h1⟩ := hm
  clear wm
  go_enter Try.func13, Try.ntmps13
  go_upto_region 2 with fail
  obtain ⟨k, hk⟩ : ∃ k : Nat, m % 6 = (k : Int) := ⟨(m % 6).toNat, by omega⟩
  have hk5 : k ≤ 5 := by omega
  rw [hk]
  clear hk h0 h1
  by_cases hg : s.size + 2 * k ≤ 400
  · have hg' : ¬ (400 : Int) < (s.size : Int) + 2 * (k : Int) := by omega
    have hpp := parse_parens s k hg
    have hp80 : k = 0 → parse (bytesOf 40 k ++ s ++ bytesOf 41 k) = parse s := by intro h; subst h; rw [parens_none]
    have hpa := @parse_at s
    have hp0 := (parse_good s).2.2
    have hz40 := bytesOf_size 40 k
    have hz41 := bytesOf_size 41 k
    have hzs : (bytesOf 40 k ++ s).size = k + s.size := by rw [ByteArray.size_append, bytesOf_size]
    have HZ := Lib.hid (And.intro hz40 (And.intro hz41 hzs))
    have HP := Lib.hid (fun W => Parse_c s W)
    have HQ := Lib.hid (fun W => Parse_c (bytesOf 40 k ++ s ++ bytesOf 41 k) W)
    unfold ParsePost at HP HQ
    generalize hp : parse s = p at *
    generalize hq : parse (bytesOf 40 k ++ s ++ bytesOf 41 k) = q at *
    have hz40' : (bytesOf 40 k).size ≤ 5 := by omega
    have hz41' : (bytesOf 41 k).size ≤ 5 := by omega
    have hzs' : (bytesOf 40 k ++ s).size ≤ 405 := by omega
    clear hp hq hz40 hz41 hzs
    obtain ⟨x, pa, pe⟩ := p
    obtain ⟨y, qa, qe⟩ := q
    dsimp only at hpp hpa hp0 HP HQ
    have HPP := Lib.hid hpp
    have HPA := Lib.hid hpa
    have HP8 := Lib.hid hp80
    clear hpp hpa hp80
    have hB1 := Below.refl w.heap.size w
    go_upto_region 5 with (go_at_call 24; refine (HP.out w).mono ?_; rintro e w1 ⟨sv, rfl, ha, hb⟩; obtain ⟨a1, c1, rfl, _, _⟩ := ha.slice)
    have hX := Blk.new w1 #[.int .u8 x.op, .int .i64 x.n, .slice a1 x.args.length c1] 28
    have hB2 := (hB1.trans (hb.mono hB1.size)).alloc (Nat.le_trans hB1.size hb.size) (.cells #[.int .u8 x.op, .int .i64 x.n, .slice a1 x.args.length c1] 28)
    have HX : Hid (ExAt (w1.alloc (.cells #[.int .u8 x.op, .int .i64 x.n, .slice a1 x.args.length c1] 28)) (w1.alloc (.cells #[.int .u8 x.op, .int .i64 x.n, .slice a1 x.args.length c1] 28)).heap.size (.agg #[.int .u8 x.op, .int .i64 x.n, .slice a1 x.args.length c1]) x) :=
      ⟨_, rfl, ArgsAt.step ha ((Below.refl _ _).alloc (Nat.le_refl _) _)⟩
    generalize hxb : w1.heap.size = xb at *
    generalize w1.alloc _ = W1 at *
    have HXB := Lib.hid hX
    have hxl := hX.lt
    clear hb ha hxb hX hB1
    go_wp2_with fail
    refine (repeat_c 40 k hk5 _).mono ?_
    rintro e w2 ⟨rfl, hb2⟩
    go_wp2_with fail
    refine (repeat_c 41 k hk5 _).mono ?_
    rintro e w3 ⟨rfl, hb3⟩
    have hb23 := hb2.trans (hb3.mono hb2.size)
    go_upto_region 6 with (go_at_call 24; refine (HQ.out w3).mono ?_; rintro e w4 ⟨sv, rfl, ha, hb4⟩; obtain ⟨a2, c2, rfl, _, _⟩ := ha.slice)
    have hb := hb23.trans (hb4.mono hb23.size)
    clear hb2 hb3 hb23 hb4
    have hX2 := (HXB.out.below hb hxl).alloc (.cells #[.int .u8 y.op, .int .i64 y.n, .slice a2 y.args.length c2] 28)
    have hY := Blk.new w4 #[.int .u8 y.op, .int .i64 y.n, .slice a2 y.args.length c2] 28
    have hB3 := (hB2.trans (hb.mono hB2.size)).alloc (Nat.le_trans hB2.size hb.size) (.cells #[.int .u8 y.op, .int .i64 y.n, .slice a2 y.args.length c2] 28)
    have hS := (Below.refl w4.heap.size w4).alloc (Nat.le_refl _) (.cells #[.int .u8 y.op, .int .i64 y.n, .slice a2 y.args.length c2] 28)
    have HY : Hid (ExAt (w4.alloc (.cells #[.int .u8 y.op, .int .i64 y.n, .slice a2 y.args.length c2] 28)) (w4.alloc (.cells #[.int .u8 y.op, .int .i64 y.n, .slice a2 y.args.length c2] 28)).heap.size (.agg #[.int .u8 y.op, .int .i64 y.n, .slice a2 y.args.length c2]) y) :=
      ⟨_, rfl, ArgsAt.step ha hS⟩
    have HX2 := Lib.hid (((HX.out.keep hb).keep (hS.mono hb.size)).mono (Nat.le_trans hb.size hS.size))
    generalize hyb : w4.heap.size = yb at *
    generalize w4.alloc _ = W2 at *
    have x0 := hX2.cell 0
    have x1 := hX2.cell 1
    have x2 := hX2.cell 2
    have y0 := hY.cell 0
    have y1 := hY.cell 1
    have y2 := hY.cell 2
    clear hb ha hyb hX2 hY hB2 HXB HX hS hxl
    by_cases h80 : pe = 80
    · subst h80
      by_cases hk0 : 0 < k
      · have hk0' : (0 : Int) < (k : Int) := by omega
        go_wp2_with (go_at_call 25; refine (eworks_c _).mono ?_; rintro e w4 ⟨rfl, hb4⟩)
        go_ret
        exact ⟨rfl, hB3.trans (hb4.mono hB3.size)⟩
      · have h1 := HP8.out (by omega)
        simp only [Prod.mk.injEq] at h1
        obtain ⟨_, rfl, rfl⟩ := h1
        have hk0' : ¬ (0 : Int) < (k : Int) := by omega
        have hee : (qa == qa) = true := by simp
        go_wp2_with (go_at_call 25; refine (eworks_c _).mono ?_; rintro e w4 ⟨rfl, hb4⟩)
        go_ret
        exact ⟨rfl, hB3.trans (hb4.mono hB3.size)⟩
    · obtain ⟨rfl, rfl, h3⟩ := HPP.out h80
      have hpa := HPA.out h80
      have h80' : (qe == 80) = false := by rw [beq_eq_false_iff_ne]; exact h80
      have hee : (qe == qe) = true := by simp
      have HSM := Lib.hid (Ex.sameB_self y)
      by_cases h0 : qe = 0
      · subst h0
        clear h3
        go_wp2_with (first | (go_at_call 31; refine (Same_c y y _ _ _ _ HX2.out HY.out (Nat.le_refl _)).mono ?_; rw [HSM.out]; rintro e w3 ⟨rfl, hb3⟩; have hB4 := hB3.trans (hb3.mono hB3.size)) | (go_at_call 25; refine (eworks_c _).mono ?_; rintro e w4 ⟨rfl, hb4⟩))
        go_ret
        exact ⟨rfl, hB4.trans (hb4.mono hB4.size)⟩
      · have h0' : (qe == 0) = false := by rw [beq_eq_false_iff_ne]; exact h0
        by_cases h81 : qe = 81
        · subst h81
          clear h3
          go_wp2_with (first | (go_at_call 31; refine (Same_c y y _ _ _ _ HX2.out HY.out (Nat.le_refl _)).mono ?_; rw [HSM.out]; rintro e w3 ⟨rfl, hb3⟩; have hB4 := hB3.trans (hb3.mono hB3.size)) | (go_at_call 25; refine (eworks_c _).mono ?_; rintro e w4 ⟨rfl, hb4⟩))
          go_ret
          exact ⟨rfl, hB4.trans (hb4.mono hB4.size)⟩
        · have h81' : (qe == 81) = false := by rw [beq_eq_false_iff_ne]; exact h81
          obtain rfl : qa = pa + k := by rcases h3 with h | h | h; exact absurd h h0; exact absurd h h81; exact h
          have heq : (pa + (k : Int) == pa + (k : Int)) = true := by simp
          clear h3 h80 h0 h81
          go_wp2_with (first | (go_at_call 31; refine (Same_c y y _ _ _ _ HX2.out HY.out (Nat.le_refl _)).mono ?_; rw [HSM.out]; rintro e w3 ⟨rfl, hb3⟩; have hB4 := hB3.trans (hb3.mono hB3.size)) | (go_at_call 25; refine (eworks_c _).mono ?_; rintro e w4 ⟨rfl, hb4⟩))
          go_ret
          exact ⟨rfl, hB4.trans (hb4.mono hB4.size)⟩
  · have hg' : (400 : Int) < (s.size : Int) + 2 * (k : Int) := by omega
    clear hg
    go_wp2_with (go_at_call 25; refine (eworks_c _).mono ?_; rintro e w4 ⟨rfl, hb4⟩)
    go_ret
    exact ⟨rfl, hb4⟩

end Go.Proofs.Ytjejnbhcgbbmhaa
