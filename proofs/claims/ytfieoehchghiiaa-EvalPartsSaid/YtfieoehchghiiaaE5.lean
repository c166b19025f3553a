/-
  Walks: the reader's next, is, fails, must.
-/
import Derived.Test.YtfieoehchghiiaaChecked
import Derived.Test.YtfieoehchghiiaaT8
import Derived.Test.YtfieoehchghiiaaP8
namespace Go.Proofs.Ytfieoehchghiiaa
open Go.RowKit
set_option linter.unusedVariables false

/-- The next token; the text ends at E. -/
def PSt.tok (E : Int) (st : PSt) : Tok := match st.l with | [] => ⟨0, { data := #[] }, 0, E⟩ | t :: _ => t
theorem PSt.isB_tok (E : Int) (st : PSt) (s : List UInt8) : st.isB s = (st.bad.isNone && (decide ((st.tok E).kind ≠ 0) && (decide ((st.tok E).kind ≠ 2) && decide ((st.tok E).text.toList = s)))) := by
  obtain ⟨l, b⟩ := st
  cases l with
  | nil => cases b <;> simp [PSt.isB, PSt.tok]
  | cons t l => rfl
theorem PSt.here_tok (E : Int) (st : PSt) : st.here E = (st.tok E).at_ := by
  obtain ⟨l, b⟩ := st
  cases l <;> rfl

/-- The reader in block br is in the state st; the text ends at E. -/
structure RdAt (w : World) (br : Nat) (E : Int) (st : PSt) : Prop where
  ex : ∃ v a, Blk w br 139 #[v, .int .i64 E, .bool st.bad.isSome, .int .i64 a] ∧ (∀ b, st.bad = some b → a = b) ∧ Sl w br 4 v st.l.length (toksCells st.l)

theorem RdAt.keep {w w' : World} {br : Nat} {E : Int} {st : PSt} (h : RdAt w br E st) (hb : Below w.heap.size w w') : RdAt w' br E st := by
  obtain ⟨v, a, h1, h2, h3⟩ := h.ex
  exact ⟨v, a, h1.below hb h1.lt, h2, h3.below (hb.mono (Nat.le_of_lt h1.lt))⟩
theorem RdAt.fr {S : Nat → Prop} {w w' : World} {br : Nat} {E : Int} {st : PSt} (h : RdAt w br E st) (hf : Fr S w w') (hs : ∀ k, k ≤ br → ¬ S k) : RdAt w' br E st := by
  obtain ⟨v, a, h1, h2, h3⟩ := h.ex
  exact ⟨v, a, h1.fr hf (hs br (Nat.le_refl _)), h2, h3.below (hf.below (Nat.le_of_lt h1.lt) (fun k hk => hs k (Nat.le_of_lt hk)))⟩
theorem RdAt.lt {w : World} {br : Nat} {E : Int} {st : PSt} (h : RdAt w br E st) : br < w.heap.size := by
  obtain ⟨v, a, h1, h2, h3⟩ := h.ex
  exact h1.lt

set_option maxHeartbeats 400000 in
theorem next_c (br : Nat) (E : Int) (st : PSt) (w : World) (h : RdAt w br E st) :
    Calls Try.prog 125 #[.pointer (some ⟨br, 0, none⟩)] w fun e w' => e = .returned (st.tok E).agg ∧ Below w.heap.size w w' := by
  obtain ⟨v, a, hb, ha, hs⟩ := h.ex
  have c0 := hb.cell 0
  have c1 := hb.cell 1
  have hlt := hb.lt
  obtain ⟨l, bad⟩ := st
  cases l with
  | nil =>
    obtain ⟨_, a1, cap, rfl, _, _, _⟩ := hs
    go_enter Try.func125, Try.ntmps125
    go_wp2_with fail
    have h0 := Blk.new w #[.int .u8 0, .string { data := #[] }, .int .i64 0, .int .i64 E] 151
    refine bodyPost_ret (v := Tok.agg ⟨0, { data := #[] }, 0, E⟩) (results_cell_row rfl _ _ w.heap.size 151 _ (0, 0) _ rfl h0 Try.underlying151 rfl ?_) rfl ⟨rfl, ?_⟩
    · as_aux_lemma => kernel_rfl
    · exact (Below.refl _ _).alloc (Nat.le_refl _) _
  | cons t l =>
    simp only [List.length_cons] at hs
    obtain ⟨b, off, cap, rfl, _, d0, d1, d2, d3⟩ := hs.tok 0 (by omega)
    simp only [Nat.zero_mul, Nat.add_zero, List.getElem_cons_zero] at d0 d1 d2 d3
    have hlb := World.block_lt_of_cell? _ _ d0
    have hl0 : 0 < l.length + 1 := by omega
    have hl1 : (((l.length + 1 : Nat) : Int) == 0) = false := by rw [beq_eq_false_iff_ne]; omega
    generalize l.length + 1 = n at *
    go_enter Try.func125, Try.ntmps125
    go_wp2_with fail
    have h0 := Blk.new w #[.int .u8 t.kind, .string t.text, .int .i64 t.n, .int .i64 t.at_] 151
    refine bodyPost_ret (v := Tok.agg t) (results_cell_row rfl _ _ w.heap.size 151 _ (0, 0) _ rfl h0 Try.underlying151 rfl ?_) rfl ⟨rfl, ?_⟩
    · as_aux_lemma => kernel_rfl
    · exact (Below.refl _ _).alloc (Nat.le_refl _) _

theorem isB_cases (E : Int) (st : PSt) (s : ByteArray) : (st.bad.isSome = true ∧ st.isB s.toList = false) ∨ (st.bad.isSome = false ∧ ((st.tok E).kind == 0) = true ∧ st.isB s.toList = false) ∨
    (st.bad.isSome = false ∧ ((st.tok E).kind == 0) = false ∧ ((st.tok E).kind == 2) = true ∧ st.isB s.toList = false) ∨
    (st.bad.isSome = false ∧ ((st.tok E).kind == 0) = false ∧ ((st.tok E).kind == 2) = false ∧ ((st.tok E).text.toList == s.toList) = false ∧ st.isB s.toList = false) ∨
    (st.bad.isSome = false ∧ ((st.tok E).kind == 0) = false ∧ ((st.tok E).kind == 2) = false ∧ (st.tok E).text = s ∧ st.isB s.toList = true) := by
  rw [PSt.isB_tok E st s.toList]
  cases hb : st.bad.isSome
  · have hb' : st.bad.isNone = true := by cases h : st.bad <;> simp_all
    by_cases h0 : (st.tok E).kind = 0
    · exact .inr (.inl ⟨rfl, by simpa using h0, by simp [h0]⟩)
    · by_cases h2 : (st.tok E).kind = 2
      · exact .inr (.inr (.inl ⟨rfl, by simpa using h0, by simpa using h2, by simp [h2]⟩))
      · by_cases hs : (st.tok E).text = s
        · exact .inr (.inr (.inr (.inr ⟨rfl, by simpa using h0, by simpa using h2, hs, by simp [hb', h0, h2, hs]⟩)))
        · have hs' : ¬ (st.tok E).text.toList = s.toList := fun h => hs ((bytes_inj _ _).1 h)
          exact .inr (.inr (.inr (.inl ⟨rfl, by simpa using h0, by simpa using h2, by simpa using hs', by simp [hs']⟩)))
  · have hb' : st.bad.isNone = false := by cases h : st.bad <;> simp_all
    exact .inl ⟨rfl, by simp [hb']⟩

set_option maxHeartbeats 1000000 in
theorem is_false (br : Nat) (E : Int) (st : PSt) (s : ByteArray) (w : World) (h : RdAt w br E st) (hf : st.isB s.toList = false) :
    Calls Try.prog 135 #[.pointer (some ⟨br, 0, none⟩), .string s] w fun e w' => e = .returned (.bool false) ∧ Below w.heap.size w w' := by
  have hc := isB_cases E st s
  obtain ⟨v, a, hb, ha, hs⟩ := h.ex
  have H := Lib.hid h
  clear hs ha
  have hlt := hb.lt
  generalize htk : st.tok E = tk at *
  obtain ⟨k, tx, n, ta⟩ := tk
  simp only at hc
  have HTK := Lib.hid htk
  have HF := Lib.hid hf
  generalize st.bad.isSome = bad at *
  clear htk hf h
  have hB := (Below.refl w.heap.size w)
  rcases hc with ⟨h1, _⟩ | ⟨h1, h2, _⟩ | ⟨h1, h2, h3, _⟩ | ⟨h1, h2, h3, h4, _⟩ | ⟨h1, h2, h3, h4, h5⟩
  · subst h1
    go_enter Try.func135, Try.ntmps135
    go_wp2_with (go_at_call 125; refine (next_c br E st _ H.out).mono ?_; rintro e w1 ⟨rfl, hb1⟩; rw [HTK.out]; dsimp only [Tok.agg]; have hb2 := hb.below hb1 hlt; have c2 := hb2.cell 2; have hlt2 := hb2.lt)
    go_ret
    exact ⟨rfl, hb1.alloc hb1.size _⟩
  · subst h1
    go_enter Try.func135, Try.ntmps135
    go_wp2_with (go_at_call 125; refine (next_c br E st _ H.out).mono ?_; rintro e w1 ⟨rfl, hb1⟩; rw [HTK.out]; dsimp only [Tok.agg]; have hb2 := hb.below hb1 hlt; have c2 := hb2.cell 2; have hlt2 := hb2.lt)
    go_ret
    exact ⟨rfl, hb1.alloc hb1.size _⟩
  · subst h1
    go_enter Try.func135, Try.ntmps135
    go_wp2_with (go_at_call 125; refine (next_c br E st _ H.out).mono ?_; rintro e w1 ⟨rfl, hb1⟩; rw [HTK.out]; dsimp only [Tok.agg]; have hb2 := hb.below hb1 hlt; have c2 := hb2.cell 2; have hlt2 := hb2.lt)
    go_ret
    exact ⟨rfl, hb1.alloc hb1.size _⟩
  · subst h1
    go_enter Try.func135, Try.ntmps135
    go_wp2_with (go_at_call 125; refine (next_c br E st _ H.out).mono ?_; rintro e w1 ⟨rfl, hb1⟩; rw [HTK.out]; dsimp only [Tok.agg]; have hb2 := hb.below hb1 hlt; have c2 := hb2.cell 2; have hlt2 := hb2.lt)
    go_ret
    exact ⟨rfl, hb1.alloc hb1.size _⟩
  · exact absurd h5 (by rw [HF.out]; decide)

theorem RdAt.next {w : World} {br : Nat} {E : Int} {t : Tok} {l : List Tok} {bad : Option Int} {b off cap : Nat} {a : Int} (hb : Blk w br 139 #[.slice (some ⟨b, off, none⟩) (l.length + 1) cap, .int .i64 E, .bool bad.isSome, .int .i64 a])
    (ha : ∀ b, bad = some b → a = b) (hs : Sl w br 4 (.slice (some ⟨b, off, none⟩) (l.length + 1) cap) (l.length + 1) (toksCells (t :: l))) {A : Option Addr} (hA : 0 < l.length → A = some ⟨b, off + 4, none⟩) :
    RdAt (w.setCell ⟨br, 0, none⟩ (.slice A l.length (cap - 1))) br E ⟨l, bad⟩ := by
  have hlt := hb.lt
  refine ⟨_, a, hb.set 0 _, ha, (hs.rest hA).below ?_⟩
  exact (Below.refl _ _).setCell (p := ⟨br, 0, none⟩) (Nat.le_refl _) _

set_option maxHeartbeats 1000000 in
theorem is_true (br : Nat) (E : Int) (st : PSt) (s : ByteArray) (w : World) (h : RdAt w br E st) (hf : st.isB s.toList = true) :
    Calls Try.prog 135 #[.pointer (some ⟨br, 0, none⟩), .string s] w fun e w' => e = .returned (.bool true) ∧ RdAt w' br E st.next ∧ Fr (· = br) w w' := by
  have hc := isB_cases E st s
  obtain ⟨v, a, hb, ha, hs⟩ := h.ex
  have H := Lib.hid h
  have hlt := hb.lt
  obtain ⟨l, bad⟩ := st
  cases l with
  | nil => cases bad <;> simp [PSt.isB] at hf
  | cons t l =>
    simp only [List.length_cons] at hs
    obtain ⟨b, off, cap, rfl, _, d0, _, _, _⟩ := hs.tok 0 (by omega)
    have hlb := World.block_lt_of_cell? _ _ d0
    have hcap : l.length + 1 ≤ cap ∧ cap ≤ maxLen := by
      obtain ⟨_, a', cap', hv, h2, h3, _⟩ := id hs
      simp only [Value.slice.injEq] at hv
      omega
    obtain ⟨hc1, hc2⟩ := hcap
    unfold maxLen at hc2
    have htk : PSt.tok E ⟨t :: l, bad⟩ = t := rfl
    have hnx : PSt.next ⟨t :: l, bad⟩ = ⟨l, bad⟩ := rfl
    rw [hnx]
    rw [htk] at hc
    have HS := Lib.hid hs
    have HA := Lib.hid ha
    have HTK := Lib.hid htk
    obtain ⟨k, tx, n, ta⟩ := t
    simp only at hc hb
    rcases hc with ⟨_, h6⟩ | ⟨_, _, h6⟩ | ⟨_, _, _, h6⟩ | ⟨_, _, _, _, h6⟩ | ⟨h1, h2, h3, h4, _⟩
    · rw [h6] at hf; exact absurd hf (by decide)
    · rw [h6] at hf; exact absurd hf (by decide)
    · rw [h6] at hf; exact absurd hf (by decide)
    · rw [h6] at hf; exact absurd hf (by decide)
    · subst h4
      clear d0 hs ha htk hnx h hf
      obtain rfl : bad = none := by cases bad <;> simp_all
      have hq : (tx.toList == tx.toList) = true := by simp
      simp only [Option.isSome_none] at hb
      generalize hm : l.length = m at *
      have HM := Lib.hid hm
      clear hm
      by_cases h1c : cap = 1
      all_goals
        go_enter Try.func135, Try.ntmps135
        go_wp2_with (go_at_call 125; refine (next_c br E _ _ H.out).mono ?_; rintro e w1 ⟨rfl, hb1⟩; rw [HTK.out]; dsimp only [Tok.agg]; have hb2 := hb.below hb1 hlt; have c2 := hb2.cell 2; have c0 := hb2.cell 0; have f0 := hb2.free 0; have hlt2 := hb2.lt)
        go_ret
        refine ⟨rfl, ?_, ?_⟩
        rotate_left
        · exact ((Fr.of_new (S := fun x => x = br) hb1).setCell (p := ⟨br, 0, none⟩) (.inl rfl) _).alloc _
      · obtain rfl := HM.out
        have hN := RdAt.next (A := some ⟨b, off, none⟩) (bad := none) hb2 HA.out (HS.out.below (hb1.mono (Nat.le_of_lt hlt))) (fun h => by omega)
        rw [h1c] at hN
        exact hN.keep ((Below.refl _ _).alloc (Nat.le_refl _) _)
      · obtain rfl := HM.out
        have hN := RdAt.next (A := some ⟨b, off + 4, none⟩) (bad := none) hb2 HA.out (HS.out.below (hb1.mono (Nat.le_of_lt hlt))) (fun _ => rfl)
        exact hN.keep ((Below.refl _ _).alloc (Nat.le_refl _) _)

/-- What 'is' leaves. -/
def PSt.took (st : PSt) (s : List UInt8) : PSt := if st.isB s then st.next else st
theorem is_c (br : Nat) (E : Int) (st : PSt) (s : ByteArray) (w : World) (h : RdAt w br E st) :
    Calls Try.prog 135 #[.pointer (some ⟨br, 0, none⟩), .string s] w fun e w' => e = .returned (.bool (st.isB s.toList)) ∧ RdAt w' br E (st.took s.toList) ∧ Fr (· = br) w w' := by
  unfold PSt.took
  cases hb : st.isB s.toList
  · exact (is_false br E st s w h hb).mono fun e w' ⟨he, hw⟩ => ⟨he, h.keep hw, Fr.of_new hw⟩
  · exact is_true br E st s w h hb

set_option maxHeartbeats 1000000 in
theorem fails_c (br : Nat) (E : Int) (st : PSt) (w : World) (h : RdAt w br E st) :
    Calls Try.prog 109 #[.pointer (some ⟨br, 0, none⟩)] w fun e w' => e = .returned (.agg #[.int .u8 0, .int .i64 0, .slice none 0 0]) ∧ RdAt w' br E (st.fails E) ∧ Fr (· = br) w w' := by
  obtain ⟨v, a, hb, ha, hs⟩ := h.ex
  have H := Lib.hid h
  have hlt := hb.lt
  have HS := Lib.hid hs
  have hbN := (hb.alloc (.cells #[.int .u8 0, .int .i64 0, .slice none 0 0] 35))
  have c2 := hb.cell 2
  obtain ⟨l, bad⟩ := st
  cases bad with
  | none =>
    have hE : Hid (PSt.fails E ⟨l, none⟩ = ⟨l, some (PSt.here E ⟨l, none⟩)⟩) := rfl
    have HN := Lib.hid (PSt.here_tok E ⟨l, none⟩)
    generalize htk : PSt.tok E ⟨l, none⟩ = tk at *
    obtain ⟨k, tx, n, ta⟩ := tk
    have HTK := Lib.hid htk
    clear htk hs h
    simp only [Option.isSome_none] at hb hbN c2
    have hfd : ∀ w : World, (Instr.field 151 (.agg #[.int .u8 k, .string tx, .int .i64 n, .int .i64 ta]) 3).run Try.prog w = .ok (.int .i64 ta) w := fun _ => by kernel_rfl
    go_enter Try.func109, Try.ntmps109
    go_upto_region 3 with (go_at_call 125; refine (next_c br E _ _ (H.out.keep ((Below.refl _ _).alloc (Nat.le_refl _) _))).mono ?_; rintro e w1 ⟨rfl, hb1⟩; rw [HTK.out]; dsimp only [Tok.agg]; have hb2 := hbN.below hb1 (by simp; omega); have d2 := hb2.cell 2; have d3 := hb2.cell 3; have f2 := hb2.free 2; have f3 := hb2.free 3; have hlt2 := hb2.lt; have h0 := (Blk.new w #[.int .u8 0, .int .i64 0, .slice none 0 0] 35).below hb1 (by simp))
    have hR : RdAt ((w1.setCell ⟨br, 2, none⟩ (.bool true)).setCell ⟨br, 3, none⟩ (.int .i64 ta)) br E (PSt.fails E ⟨l, none⟩) := by
      refine ⟨v, ta, (hb2.set 2 _).set 3 _, ?_, ?_⟩
      · rw [hE.out, HN.out]; intro b h; cases h; rfl
      · rw [hE.out]
        exact HS.out.below (((((Below.refl br w).alloc (Nat.le_of_lt hlt) _).trans (hb1.mono (by simp; omega))).setCell (Nat.le_refl _) _).setCell (Nat.le_refl _) _)
    have hF : Fr (· = br) w ((w1.setCell ⟨br, 2, none⟩ (.bool true)).setCell ⟨br, 3, none⟩ (.int .i64 ta)) := by
      refine ((((Fr.refl (fun x => x = br) w).alloc _).trans (Fr.of_new hb1)).setCell (p := ⟨br, 2, none⟩) (.inl rfl) _).setCell (p := ⟨br, 3, none⟩) (.inl rfl) _
    have h1 : Blk ((w1.setCell ⟨br, 2, none⟩ (.bool true)).setCell ⟨br, 3, none⟩ (.int .i64 ta)) w.heap.size 35 #[.int .u8 0, .int .i64 0, .slice none 0 0] :=
      (h0.other (p := ⟨br, 2, none⟩) (by simp; omega) _).other (p := ⟨br, 3, none⟩) (by simp; omega) _
    generalize World.setCell (World.setCell w1 _ _) _ _ = W at *
    have g0 := h1.cell 0
    have g1 := h1.cell 1
    have g2 := h1.cell 2
    have k0 := h1.free 0
    have k1 := h1.free 1
    have k2 := h1.free 2
    clear d2 d3 f2 f3 hb2 hb1 c2 hbN hb h0
    go_wp2_with fail
    refine bodyPost_ret (v := .agg #[.int .u8 0, .int .i64 0, .slice none 0 0]) (results_cell_row rfl _ _ w.heap.size 35 _ (0, 0) _ rfl (((h1.set 0 _).set 1 _).set 2 _) Try.underlying35 rfl ?_) rfl ⟨rfl, ?_, ?_⟩
    · as_aux_lemma => kernel_rfl
    · exact hR.fr ((((Fr.refl (fun x => x = w.heap.size) W).setCell (p := ⟨w.heap.size, 0, none⟩) (.inl rfl) _).setCell (p := ⟨w.heap.size, 1, none⟩) (.inl rfl) _).setCell (p := ⟨w.heap.size, 2, none⟩) (.inl rfl) _) (fun k hk => by omega)
    · exact ((hF.setCell (p := ⟨w.heap.size, 0, none⟩) (.inr (Nat.le_refl _)) _).setCell (p := ⟨w.heap.size, 1, none⟩) (.inr (Nat.le_refl _)) _).setCell (p := ⟨w.heap.size, 2, none⟩) (.inr (Nat.le_refl _)) _
  | some b =>
    have hE : PSt.fails E ⟨l, some b⟩ = ⟨l, some b⟩ := rfl
    rw [hE]
    clear hs h
    simp only [Option.isSome_some] at hb hbN c2
    go_enter Try.func109, Try.ntmps109
    go_wp2_with fail
    have h0 := Blk.new w #[.int .u8 0, .int .i64 0, .slice none 0 0] 35
    refine bodyPost_ret (v := .agg #[.int .u8 0, .int .i64 0, .slice none 0 0]) (results_cell_row rfl _ _ w.heap.size 35 _ (0, 0) _ rfl h0 Try.underlying35 rfl ?_) rfl ⟨rfl, H.out.keep ((Below.refl _ _).alloc (Nat.le_refl _) _), (Fr.refl _ _).alloc _⟩
    as_aux_lemma => kernel_rfl

set_option maxHeartbeats 400000 in
theorem must_c (br : Nat) (E : Int) (st : PSt) (s : ByteArray) (w : World) (h : RdAt w br E st) :
    Calls Try.prog 148 #[.pointer (some ⟨br, 0, none⟩), .string s] w fun e w' => e = .returned (.tuple #[]) ∧ RdAt w' br E (st.must E s.toList) ∧ Fr (· = br) w w' := by
  unfold PSt.must
  cases hb : st.isB s.toList
  all_goals
    have H := Lib.hid h
    have HB := Lib.hid hb
    clear h hb
    go_enter Try.func148, Try.ntmps148
    go_wp2_with (first
      | (go_at_call 135; refine (is_c br E st s _ H.out).mono ?_; rintro e w1 ⟨rfl, h1, hf1⟩; rw [PSt.took] at h1; rw [HB.out] at h1 ⊢; have H1 := Lib.hid h1; clear h1)
      | (go_at_call 109; refine (fails_c br E st _ H1.out).mono ?_; rintro e w2 ⟨rfl, h2, hf2⟩))
    go_end0
  · exact ⟨rfl, h2, hf1.trans hf2⟩
  · exact ⟨rfl, H1.out, hf1⟩

end Go.Proofs.Ytfieoehchghiiaa
