/-
  Walks: the closure of lex.Tokens, and lex.Tokens.
-/
import Derived.Test.YtfieoehchghiiaaW3
namespace Go.Proofs.Ytfieoehchghiiaa
open Go.RowKit
set_option linter.unusedVariables false

theorem info_tok : (Try.prog.info? 151).map (fun i => (i.zero, i.size, i.bytes)) = some (some Tok.zero.agg, 4, 40) := by kernel_rfl

/-- What the closure leaves: token, row. -/
structure Held (w : World) (Bt Bo base : Nat) (t : Tok) (v : Value) (out : List Tok) : Prop where
  tok : Blk w Bt 151 #[.int .u8 t.kind, .string t.text, .int .i64 t.n, .int .i64 t.at_]
  row : Blk w Bo 134 #[v]
  own : w.ownsRow base 151 4 v out.length (toksCells out)

theorem Held.lt1 {w : World} {Bt Bo base : Nat} {t : Tok} {v : Value} {out : List Tok} (h : Held w Bt Bo base t v out) : Bt < w.heap.size := h.tok.lt

/-- Four stores into the token's block. -/
theorem Held.zero {w : World} {Bt Bo base : Nat} {t : Tok} {v : Value} {out : List Tok} (h : Held w Bt Bo base t v out) (h1 : Bt < base) (h3 : Bt ≠ Bo) :
    Held ((((w.setCell ⟨Bt, 0, none⟩ (.int .u8 0)).setCell ⟨Bt, 1, none⟩ (.string { data := #[] })).setCell ⟨Bt, 2, none⟩ (.int .i64 0)).setCell ⟨Bt, 3, none⟩ (.int .i64 0)) Bt Bo base Tok.zero v out ∧
      Fr (fun k => k = Bt ∨ k = Bo ∨ base ≤ k) w ((((w.setCell ⟨Bt, 0, none⟩ (.int .u8 0)).setCell ⟨Bt, 1, none⟩ (.string { data := #[] })).setCell ⟨Bt, 2, none⟩ (.int .i64 0)).setCell ⟨Bt, 3, none⟩ (.int .i64 0)) := by
  refine ⟨⟨(((h.tok.set 0 _).set 1 _).set 2 _).set 3 _, (((h.row.other (p := ⟨Bt, 0, none⟩) (Ne.symm h3) _).other (p := ⟨Bt, 1, none⟩) (Ne.symm h3) _).other (p := ⟨Bt, 2, none⟩) (Ne.symm h3) _).other (p := ⟨Bt, 3, none⟩) (Ne.symm h3) _, ?_⟩, ?_⟩
  · exact ownsRow_setCell_below (ownsRow_setCell_below (ownsRow_setCell_below (ownsRow_setCell_below h.own (a := ⟨Bt, 0, none⟩) h1 _) (a := ⟨Bt, 1, none⟩) h1 _) (a := ⟨Bt, 2, none⟩) h1 _) (a := ⟨Bt, 3, none⟩) h1 _
  · exact ((((Fr.refl _ _).setCell (p := ⟨Bt, 0, none⟩) (.inl (.inl rfl)) _).setCell (p := ⟨Bt, 1, none⟩) (.inl (.inl rfl)) _).setCell (p := ⟨Bt, 2, none⟩) (.inl (.inl rfl)) _).setCell (p := ⟨Bt, 3, none⟩) (.inl (.inl rfl)) _

theorem Held.appended {W w3 : World} {o : Obj} {Bt Bo base : Nat} {t : Tok} {v v' : Value} {out : List Tok} (h : Held W Bt Bo base t v out) (h1 : Bt < base) (h2 : Bo < base) (h3 : Bt ≠ Bo)
    (hown : w3.ownsRow base 151 4 v' (out.length + 1) (toksCells out ++ t.cells)) (hg : (W.alloc o).grownBy w3 v.ownBlock) :
    Held (w3.setCell ⟨Bo, 0, none⟩ v') Bt Bo base t v' (out ++ [t]) ∧ Fr (fun k => k = Bt ∨ k = Bo ∨ base ≤ k) W (w3.setCell ⟨Bo, 0, none⟩ v') ∧ Blk w3 Bo 134 #[v] ∧ Blk w3 Bt 151 #[.int .u8 t.kind, .string t.text, .int .i64 t.n, .int .i64 t.at_] := by
  have hr : ∀ k, v.ownBlock = some k → base ≤ k := fun k hk => (h.own.lt k hk).1
  have hBo : Blk w3 Bo 134 #[v] := (h.row.alloc o).grown hg (fun e => by have := hr Bo e.symm; omega)
  have hBt := (h.tok.alloc o).grown hg (fun e => by have := hr Bt e.symm; omega)
  refine ⟨⟨hBt.other (p := ⟨Bo, 0, none⟩) h3 _, hBo.set 0 v', ?_⟩, ?_, hBo, hBt⟩
  · rw [List.length_append, toksCells_snoc]
    exact ownsRow_setCell_below hown (a := ⟨Bo, 0, none⟩) h2 _
  · exact ((((Fr.refl _ W).alloc o).grown hg (fun k hk => .inl (.inr (.inr (hr k hk)))))).setCell (p := ⟨Bo, 0, none⟩) (.inl (.inr (.inl rfl))) _

theorem cell_four_new (w : World) (a b c d : Value) (t : TypeId) : ∀ j u, [a, b, c, d][j]? = some u → (w.alloc (.cells #[a, b, c, d] t)).cell? ((⟨w.heap.size, 0, none⟩ : Addr).add j) = some u := by
  intro j u hj
  have hj4 : j < 4 := (List.getElem?_eq_some_iff.1 hj).1
  rw [Addr.add_lit, Nat.zero_add, (Blk.new w #[a, b, c, d] t).cell j]
  simpa using hj

set_option maxHeartbeats 400000 in
theorem ends_0 (Bt Bo base : Nat) (t : Tok) (v : Value) (out : List Tok) (w : World) (h : Held w Bt Bo base t v out) (hk : t.kind = 0) (h1 : Bt < base) (h3 : Bt ≠ Bo) :
    Calls Try.prog 119 #[.pointer (some ⟨Bt, 0, none⟩), .pointer (some ⟨Bo, 0, none⟩)] w fun e w' => e = .returned (.bool true) ∧ Held w' Bt Bo base Tok.zero v out ∧ Fr (fun k => k = Bt ∨ k = Bo ∨ base ≤ k) w w' := by
  have hz := h.zero h1 h3
  obtain ⟨k, tx, n, a⟩ := t
  simp only at hk
  subst hk
  have hb := h.tok
  have c0 := hb.cell 0
  have c1 := hb.cell 1
  have c2 := hb.cell 2
  have c3 := hb.cell 3
  have f0 := hb.free 0
  have f1 := hb.free 1
  have f2 := hb.free 2
  have f3 := hb.free 3
  go_enter Try.func119, Try.ntmps119
  go_wp2
  go_ret
  exact ⟨rfl, hz⟩

set_option maxHeartbeats 400000 in
theorem ends_2n (Bt Bo base : Nat) (t : Tok) (v : Value) (out : List Tok) (w : World) (h : Held w Bt Bo base t v out) (hk : t.kind = 2)
    (hd : ∀ r ∈ runes t.text, 48 ≤ r ∧ r ≤ 57) (hn : numGo 0 (runes t.text) = none) :
    Calls Try.prog 119 #[.pointer (some ⟨Bt, 0, none⟩), .pointer (some ⟨Bo, 0, none⟩)] w fun e w' => e = .returned (.bool false) ∧ Fr (fun k => k = Bt ∨ k = Bo ∨ base ≤ k) w w' := by
  obtain ⟨k, tx, n, a⟩ := t
  simp only at hk hd hn
  subst hk
  have hb := h.tok
  have c0 := hb.cell 0
  have c1 := hb.cell 1
  have c2 := hb.cell 2
  have c3 := hb.cell 3
  have HN := Lib.hid hn
  clear hn
  go_enter Try.func119, Try.ntmps119
  go_wp2_with (go_at_call 120; refine (number_c _ _ hd).mono ?_; rintro e w1 ⟨rfl, hb1⟩; rw [HN.out]; unfold numRes; dsimp only [Option.getD, Option.isSome])
  go_ret
  exact ⟨rfl, Fr.of_new hb1⟩

set_option maxHeartbeats 400000 in
theorem ends_2s (Bt Bo base : Nat) (t : Tok) (v : Value) (out : List Tok) (w : World) (h : Held w Bt Bo base t v out) (hk : t.kind = 2) (h1 : Bt < base) (h2 : Bo < base) (h3 : Bt ≠ Bo) (h4 : base ≤ w.heap.size)
    (hd : ∀ r ∈ runes t.text, 48 ≤ r ∧ r ≤ 57) (m : Int) (hn : numGo 0 (runes t.text) = some m) (hl : out.length < 1000000) :
    Calls Try.prog 119 #[.pointer (some ⟨Bt, 0, none⟩), .pointer (some ⟨Bo, 0, none⟩)] w fun e w' => e = .returned (.bool true) ∧ (∃ v', Held w' Bt Bo base Tok.zero v' (out ++ [⟨2, { data := #[] }, m, t.at_⟩])) ∧ Fr (fun k => k = Bt ∨ k = Bo ∨ base ≤ k) w w' := by
  obtain ⟨k, tx, n, a⟩ := t
  simp only at hk hd hn
  subst hk
  have hb := h.tok
  have c0 := hb.cell 0
  have c1 := hb.cell 1
  have HN := Lib.hid hn
  clear hn
  go_enter Try.func119, Try.ntmps119
  go_upto_region 7 with (go_at_call 120; refine (number_c _ _ hd).mono ?_; rintro e w1 ⟨rfl, hb1⟩; rw [HN.out]; unfold numRes; dsimp only [Option.getD, Option.isSome]; have hb2 := hb.below hb1 hb.lt; have d0 := hb2.cell 0; have d1 := hb2.cell 1; have d2 := hb2.cell 2; have f1 := hb2.free 1; have f2 := hb2.free 2)
  have H0 : Held ((w1.setCell ⟨Bt, 2, none⟩ (.int .i64 m)).setCell ⟨Bt, 1, none⟩ (.string { data := #[] })) Bt Bo base ⟨2, { data := #[] }, m, a⟩ v out ∧ Fr (fun k => k = Bt ∨ k = Bo ∨ base ≤ k) w ((w1.setCell ⟨Bt, 2, none⟩ (.int .i64 m)).setCell ⟨Bt, 1, none⟩ (.string { data := #[] })) ∧ w.heap.size ≤ ((w1.setCell ⟨Bt, 2, none⟩ (.int .i64 m)).setCell ⟨Bt, 1, none⟩ (.string { data := #[] })).heap.size := by
    have hown : w1.ownsRow base 151 4 v out.length (toksCells out) := by
      refine h.own.kept (row := none) ⟨hb1.os, hb1.tape, hb1.output, hb1.size, fun k hk _ => hb1.block k hk⟩ ?_
      cases hv : v.ownBlock <;> simp
    refine ⟨⟨(hb2.set 2 _).set 1 _, ((h.row.below hb1 h.row.lt).other (p := ⟨Bt, 2, none⟩) (Ne.symm h3) _).other (p := ⟨Bt, 1, none⟩) (Ne.symm h3) _, ownsRow_setCell_below (ownsRow_setCell_below hown (a := ⟨Bt, 2, none⟩) h1 _) (a := ⟨Bt, 1, none⟩) h1 _⟩, ?_, ?_⟩
    · exact ((Fr.of_new hb1).setCell (p := ⟨Bt, 2, none⟩) (.inl (.inl rfl)) _).setCell (p := ⟨Bt, 1, none⟩) (.inl (.inl rfl)) _
    · simpa [World.setCell] using hb1.size
  generalize ((w1.setCell ⟨Bt, 2, none⟩ (.int .i64 m)).setCell ⟨Bt, 1, none⟩ (.string { data := #[] })) = W at *
  obtain ⟨H, hf1, hsz⟩ := H0
  clear hb2 d0 d1 d2 f1 f2 c0 c1 hb h hd
  have hl0 := Lib.hid hl
  clear hl
  have hcell := cell_four_new W (.int .u8 2) (.string { data := #[] }) (.int .i64 m) (.int .i64 a)
  have d0 := H.tok.cell 0
  have d1 := H.tok.cell 1
  have d2 := H.tok.cell 2
  have d3 := H.tok.cell 3
  have o0 := H.row.cell 0
  obtain ⟨i0, hi, hz0, hz1, hz2⟩ := info_parts info_tok
  go_wp2_with (at_builtin; refine wpList_append_own _ rfl _ _ 134 rfl base 151 i0 Tok.zero.agg 4 40 Try.underlying134 hi hz0 hz1 hz2 rfl (by decide) _ _ _ rfl (H.own.alloc _) ⟨W.heap.size, 0, none⟩ 1 1 [.int .u8 2, .string { data := #[] }, .int .i64 m, .int .i64 a] rfl rfl (hcell _) ?c2 ?c3 ?c4 ?c5 ?_)
  case c2 => simp [Value.oneCell']
  case c3 => unfold maxLen; have := hl0.out; omega
  case c4 => have := hl0.out; omega
  case c5 => first | omega | (simp; omega)
  intro v' w3 hown hgrow _
  obtain ⟨g', cap', rfl⟩ := owns_succ hown
  obtain ⟨H2, hf2, hBo, hBt⟩ := H.appended h1 h2 h3 hown hgrow
  have e0 := hBo.cell 0
  have e1 := hBo.free 0
  have g0 := hBt.cell 0
  have g1 := hBt.cell 1
  have g2 := hBt.cell 2
  have g3 := hBt.cell 3
  have k0 := hBt.free 0
  have k1 := hBt.free 1
  have k2 := hBt.free 2
  have k3 := hBt.free 3
  go_wp2_with fail
  go_ret
  exact ⟨rfl, ⟨_, (H2.zero h1 h3).1⟩, (hf1.trans hf2).trans (H2.zero h1 h3).2⟩

set_option maxHeartbeats 400000 in
theorem ends_k (Bt Bo base : Nat) (t : Tok) (v : Value) (out : List Tok) (w : World) (h : Held w Bt Bo base t v out) (hk2 : (t.kind == 2) = false) (hk0 : (t.kind != 0) = true) (h1 : Bt < base) (h2 : Bo < base) (h3 : Bt ≠ Bo) (h4 : base ≤ w.heap.size) (hl : out.length < 1000000) :
    Calls Try.prog 119 #[.pointer (some ⟨Bt, 0, none⟩), .pointer (some ⟨Bo, 0, none⟩)] w fun e w' => e = .returned (.bool true) ∧ (∃ v', Held w' Bt Bo base Tok.zero v' (out ++ [t])) ∧ Fr (fun k => k = Bt ∨ k = Bo ∨ base ≤ k) w w' := by
  obtain ⟨k, tx, n, a⟩ := t
  simp only at hk2 hk0
  have hb := h.tok
  have c0 := hb.cell 0
  have c1 := hb.cell 1
  go_enter Try.func119, Try.ntmps119
  go_upto_region 7 with (fail)
  have H := h
  clear c0 c1 hb h
  have hl0 := Lib.hid hl
  clear hl
  have hcell := cell_four_new w (.int .u8 k) (.string tx) (.int .i64 n) (.int .i64 a)
  have d0 := H.tok.cell 0
  have d1 := H.tok.cell 1
  have d2 := H.tok.cell 2
  have d3 := H.tok.cell 3
  have o0 := H.row.cell 0
  obtain ⟨i0, hi, hz0, hz1, hz2⟩ := info_parts info_tok
  go_wp2_with (at_builtin; refine wpList_append_own _ rfl _ _ 134 rfl base 151 i0 Tok.zero.agg 4 40 Try.underlying134 hi hz0 hz1 hz2 rfl (by decide) _ _ _ rfl (H.own.alloc _) ⟨w.heap.size, 0, none⟩ 1 1 [.int .u8 k, .string tx, .int .i64 n, .int .i64 a] rfl rfl (hcell _) ?c2 ?c3 ?c4 ?c5 ?_)
  case c2 => simp [Value.oneCell']
  case c3 => unfold maxLen; have := hl0.out; omega
  case c4 => have := hl0.out; omega
  case c5 => first | omega | (simp; omega)
  intro v' w3 hown hgrow _
  obtain ⟨g', cap', rfl⟩ := owns_succ hown
  obtain ⟨H2, hf2, hBo, hBt⟩ := H.appended h1 h2 h3 hown hgrow
  have e0 := hBo.cell 0
  have e1 := hBo.free 0
  have g0 := hBt.cell 0
  have g1 := hBt.cell 1
  have g2 := hBt.cell 2
  have g3 := hBt.cell 3
  have k0 := hBt.free 0
  have k1 := hBt.free 1
  have k2 := hBt.free 2
  have k3 := hBt.free 3
  go_wp2_with fail
  go_ret
  exact ⟨rfl, ⟨_, (H2.zero h1 h3).1⟩, hf2.trans (H2.zero h1 h3).2⟩

theorem digit_runes {tx : ByteArray} (h : ∀ b ∈ tx.data.toList, 48 ≤ b.toNat ∧ b.toNat ≤ 57) : ∀ r ∈ runes tx, 48 ≤ r ∧ r ≤ 57 := by
  rw [runes_ascii tx (fun b hb => by have := h b hb; omega)]
  intro r hr
  obtain ⟨b, hb, rfl⟩ := List.mem_map.1 hr
  have := h b hb
  omega

theorem ends_none (Bt Bo base : Nat) (t : Tok) (v : Value) (out : List Tok) (w : World) (h : Held w Bt Bo base t v out) (h1 : Bt < base) (h2 : Bo < base) (h3 : Bt ≠ Bo) (h4 : base ≤ w.heap.size)
    (hd : t.kind = 2 → ∀ b ∈ t.text.data.toList, 48 ≤ b.toNat ∧ b.toNat ≤ 57) (hn : endTok t out = none) :
    Calls Try.prog 119 #[.pointer (some ⟨Bt, 0, none⟩), .pointer (some ⟨Bo, 0, none⟩)] w fun e w' => e = .returned (.bool false) ∧ Fr (fun k => k = Bt ∨ k = Bo ∨ base ≤ k) w w' := by
  unfold endTok at hn
  by_cases hk : t.kind = 2
  · rw [if_pos hk] at hn
    cases hg : numGo 0 (runes t.text) with
    | none => exact ends_2n Bt Bo base t v out w h hk (digit_runes (hd hk)) hg
    | some m => rw [hg] at hn; simp at hn
  · rw [if_neg hk] at hn
    split at hn <;> simp at hn

theorem ends_some (Bt Bo base : Nat) (t : Tok) (v : Value) (out : List Tok) (w : World) (h : Held w Bt Bo base t v out) (h1 : Bt < base) (h2 : Bo < base) (h3 : Bt ≠ Bo) (h4 : base ≤ w.heap.size)
    (hd : t.kind = 2 → ∀ b ∈ t.text.data.toList, 48 ≤ b.toNat ∧ b.toNat ≤ 57) (hl : out.length < 1000000) (o : List Tok) (hn : endTok t out = some o) :
    Calls Try.prog 119 #[.pointer (some ⟨Bt, 0, none⟩), .pointer (some ⟨Bo, 0, none⟩)] w fun e w' => e = .returned (.bool true) ∧ (∃ v', Held w' Bt Bo base Tok.zero v' o) ∧ Fr (fun k => k = Bt ∨ k = Bo ∨ base ≤ k) w w' := by
  unfold endTok at hn
  by_cases hk : t.kind = 2
  · rw [if_pos hk] at hn
    cases hg : numGo 0 (runes t.text) with
    | none => rw [hg] at hn; simp at hn
    | some m =>
      rw [hg] at hn
      simp only [Option.some.injEq] at hn
      subst hn
      exact ends_2s Bt Bo base t v out w h hk h1 h2 h3 h4 (digit_runes (hd hk)) m hg hl
  · rw [if_neg hk] at hn
    by_cases h0 : t.kind = 0
    · rw [if_pos h0] at hn
      simp only [Option.some.injEq] at hn
      subst hn
      exact (ends_0 Bt Bo base t v out w h h0 h1 h3).mono fun e w' ⟨he, hH, hf⟩ => ⟨he, ⟨_, hH⟩, hf⟩
    · rw [if_neg h0] at hn
      simp only [Option.some.injEq] at hn
      subst hn
      exact ends_k Bt Bo base t v out w h (by simpa using hk) (by simpa using h0) h1 h2 h3 h4 hl

theorem endTok_length {t : Tok} {out o : List Tok} (h : endTok t out = some o) : o.length ≤ out.length + 1 := by
  unfold endTok at h
  split at h
  · split at h
    · simp at h
    · simp only [Option.some.injEq] at h; subst h; simp
  · split at h
    · simp only [Option.some.injEq] at h; subst h; omega
    · simp only [Option.some.injEq] at h; subst h; simp

end Go.Proofs.Ytfieoehchghiiaa
