/-
  Plain laws: what tokens are like; what is read may be.
-/
import Derived.Test.YtlkkigpjahlloaaDoorP8
import Derived.Test.YtlkkigpjahlloaaDoorW5
import Derived.Test.YtlkkigpjahlloaaDoorE1
namespace Go.Proofs.YtlkkigpjahlloaaDoor
open Go.RowKit
set_option linter.unusedVariables false

/-- The texts of signs. -/
def signTexts : List (List UInt8) := [[43], [45], [42], [47], [37], [40], [41], [38], [124], [33], [61], [60], [33, 61], [60, 61]]

/-- What a token of lex.Tokens is like. -/
structure TokWf (t : Tok) : Prop where
  at_ : 0 ≤ t.at_
  n : 0 ≤ t.n
  kind : t.kind = 1 ∨ t.kind = 2 ∨ t.kind = 3
  sign : t.kind = 3 → t.text.toList ∈ signTexts
  name : t.kind = 1 → ∃ (r : Int) (rest : ByteArray), kindN r = 1 ∧ t.text = Utf8.encode r ++ rest

/-- What the token that goes on is like. -/
structure TokCur (t : Tok) : Prop where
  n : t.n = 0
  kind : t.kind = 0 ∨ t.kind = 1 ∨ t.kind = 2 ∨ t.kind = 3
  digits : t.kind = 2 → ∀ b ∈ t.text.data.toList, 48 ≤ b.toNat ∧ b.toNat ≤ 57
  sign : t.kind = 3 → t.text.toList ∈ signTexts
  name : t.kind = 1 → ∃ (r : Int) (rest : ByteArray), kindN r = 1 ∧ t.text = Utf8.encode r ++ rest

theorem kindN_cases (r : Int) : kindN r = 0 ∨ kindN r = 1 ∨ kindN r = 2 ∨ kindN r = 3 := by
  unfold kindN
  repeat' split
  all_goals simp

theorem numGo_nonneg : ∀ (rs : List Int) (n m : Int), 0 ≤ n → (∀ r ∈ rs, 48 ≤ r) → numGo n rs = some m → 0 ≤ m
  | [], n, m, hn, _, h => by simp only [numGo, Option.some.injEq] at h; omega
  | r :: rs, n, m, hn, hr, h => by
    simp only [numGo] at h
    split at h
    · simp at h
    · have := hr r (by simp)
      exact numGo_nonneg rs _ m (by omega) (fun x hx => hr x (by simp [hx])) h

theorem encode_sign (r : Int) (h : signB r = true) : (Utf8.encode r).toList ∈ signTexts := by
  have h' : r = 43 ∨ r = 45 ∨ r = 42 ∨ r = 47 ∨ r = 37 ∨ r = 40 ∨ r = 41 ∨ r = 38 ∨ r = 124 ∨ r = 33 ∨ r = 61 ∨ r = 60 := by simpa [signB] using h
  rcases h' with rfl | rfl | rfl | rfl | rfl | rfl | rfl | rfl | rfl | rfl | rfl | rfl <;> decide +kernel
theorem kindN_sign {r : Int} (h : kindN r = 3) : signB r = true := by
  unfold kindN at h
  split at h
  · omega
  · split at h
    · assumption
    · split at h <;> omega

theorem toList_append (a b : ByteArray) : (a ++ b).toList = a.toList ++ b.toList := by
  rw [ByteArray.toList_eq, ByteArray.toList_eq, ByteArray.toList_eq]
  simp [ByteArray.data_append]

theorem TokCur.zero : TokCur Tok.zero := ⟨rfl, .inl rfl, fun h => absurd h (by decide), fun h => absurd h (by decide), fun h => absurd h (by decide)⟩
theorem TokCur.new (r : Int) (p : Int) : TokCur ⟨kindN r, Utf8.encode r, 0, p⟩ :=
  ⟨rfl, kindN_cases r, digits_one r, fun h => encode_sign r (kindN_sign h), fun h => ⟨r, ByteArray.empty, h, by simp⟩⟩
theorem TokCur.goes {t : Tok} (h : TokCur t) (r : Int) (hg : goesB t.kind t.text r = true) : TokCur { t with text := t.text ++ Utf8.encode r } := by
  refine ⟨h.n, h.kind, digits_snoc t.kind t.text r h.digits hg, fun hk => ?_, fun hk => ?_⟩
  · have hk3 : t.kind = 3 := hk
    unfold goesB at hg
    rw [if_pos hk3] at hg
    simp only [Bool.and_eq_true, Bool.or_eq_true, decide_eq_true_eq] at hg
    obtain ⟨rfl, hg⟩ := hg
    show (t.text ++ Utf8.encode 61).toList ∈ _
    rw [toList_append]
    rcases hg with hg | hg <;> rw [hg] <;> decide +kernel
  · obtain ⟨r0, rest, h1, h2⟩ := h.name hk
    exact ⟨r0, rest ++ Utf8.encode r, h1, by show t.text ++ _ = _; rw [h2, ByteArray.append_assoc]⟩

theorem endTok_wf {t : Tok} (h : TokCur t) (ha : 0 ≤ t.at_) {out o : List Tok} (ho : ∀ u ∈ out, TokWf u) (he : endTok t out = some o) : ∀ u ∈ o, TokWf u := by
  unfold endTok at he
  by_cases hk : t.kind = 2
  · rw [if_pos hk] at he
    cases hm : numGo 0 (runes t.text) with
    | none => rw [hm] at he; simp at he
    | some m =>
      rw [hm] at he
      simp only [Option.some.injEq] at he
      subst he
      intro u hu
      rcases List.mem_append.1 hu with hu | hu
      · exact ho u hu
      · simp only [List.mem_singleton] at hu
        subst hu
        have hd := digit_runes (h.digits hk)
        exact ⟨ha, numGo_nonneg _ 0 m (by omega) (fun r hr => (hd r hr).1) hm, .inr (.inl rfl), fun h => absurd h (by simp), fun h => absurd h (by simp)⟩
  · rw [if_neg hk] at he
    by_cases h0 : t.kind = 0
    · rw [if_pos h0] at he
      simp only [Option.some.injEq] at he
      subst he
      exact ho
    · rw [if_neg h0] at he
      simp only [Option.some.injEq] at he
      subst he
      intro u hu
      rcases List.mem_append.1 hu with hu | hu
      · exact ho u hu
      · simp only [List.mem_singleton] at hu
        subst hu
        refine ⟨ha, by rw [h.n]; omega, ?_, h.sign, h.name⟩
        rcases h.kind with h1 | h1
        · exact absurd h1 h0
        · exact h1

theorem tokGo_wf : ∀ (rs : List Int) (t : Tok) (pos : Int) (out : List Tok), TokCur t → 0 ≤ t.at_ → -1 ≤ pos → (∀ u ∈ out, TokWf u) →
    (∀ u ∈ (tokGo t pos out rs).1, TokWf u) ∧ 0 ≤ (tokGo t pos out rs).2.1
  | [], t, pos, out, ht, ha, hp, ho => by
    simp only [tokGo]
    cases he : endTok t out with
    | none => exact ⟨by simp, ha⟩
    | some o => exact ⟨endTok_wf ht ha ho he, Int.le_refl 0⟩
  | r :: rs, t, pos, out, ht, ha, hp, ho => by
    simp only [tokGo]
    split
    · exact tokGo_wf rs _ _ _ (ht.goes r (by assumption)) ha (by omega) ho
    · cases he : endTok t out with
      | none => exact ⟨by simp, ha⟩
      | some o =>
        dsimp only
        have ho2 := endTok_wf ht ha ho he
        split
        · exact tokGo_wf rs _ _ _ TokCur.zero (Int.le_refl 0) (by omega) ho2
        · split
          · exact ⟨by simp, by show 0 ≤ pos + 1; omega⟩
          · exact tokGo_wf rs _ _ _ (TokCur.new r _) (by show 0 ≤ pos + 1; omega) (by omega) ho2

theorem toks_wf (s : ByteArray) : (∀ u ∈ (toks s).1, TokWf u) ∧ 0 ≤ (toks s).2.1 := by
  unfold toks
  split
  · exact ⟨by simp, Int.le_refl 0⟩
  · exact tokGo_wf _ _ _ _ TokCur.zero (Int.le_refl 0) (by omega) (by simp)

/-- All tokens of a state are as tokens are. -/
def PSt.Wf (st : PSt) : Prop := (∀ u ∈ st.l, TokWf u) ∧ ∀ b, st.bad = some b → 0 ≤ b

theorem PSt.Wf.next {st : PSt} (h : st.Wf) : st.next.Wf := ⟨fun u hu => h.1 u (List.mem_of_mem_drop hu), h.2⟩
theorem PSt.Wf.fails {st : PSt} (h : st.Wf) {E : Int} (hE : 0 ≤ E) : (st.fails E).Wf := by
  obtain ⟨l, b⟩ := st
  cases b with
  | some b => exact h
  | none =>
    refine ⟨h.1, fun b hb => ?_⟩
    simp only [PSt.fails, Option.some.injEq] at hb
    subst hb
    cases l with
    | nil => exact hE
    | cons t l => exact (h.1 t (by simp)).at_
theorem PSt.Wf.must {st : PSt} (h : st.Wf) {E : Int} (hE : 0 ≤ E) (s : List UInt8) : (st.must E s).Wf := by
  unfold PSt.must
  split
  · exact h.next
  · exact h.fails hE

mutual
/-- All of its parts have the shape that they may have. -/
def Ex.shp : Ex → Bool
  | .mk o n l => shapeB (.mk o n l) && Exs.shp l
def Exs.shp : List Ex → Bool
  | [] => true
  | x :: l => x.shp && Exs.shp l
end
theorem Exs.shp_all : ∀ l : List Ex, Exs.shp l = l.all Ex.shp
  | [] => rfl
  | x :: l => by simp only [Exs.shp, List.all_cons]; rw [Exs.shp_all l]
theorem Ex.shp_eq (x : Ex) : x.shp = (shapeB x && x.args.all Ex.shp) := by
  obtain ⟨o, n, l⟩ := x
  simp only [Ex.shp, Ex.args]
  rw [Exs.shp_all]

theorem foldl_max_le (f : Ex → Nat) : ∀ (l : List Ex) (m k : Nat), l.foldl (fun n a => max n (f a)) m ≤ k → m ≤ k ∧ ∀ a ∈ l, f a ≤ k
  | [], m, k, h => ⟨h, by simp⟩
  | x :: l, m, k, h => by
    obtain ⟨h1, h2⟩ := foldl_max_le f l _ k h
    have h1' : max m (f x) ≤ k := h1
    refine ⟨by have := Nat.le_max_left m (f x); omega, fun a ha => ?_⟩
    rcases List.mem_cons.1 ha with rfl | ha
    · have := Nat.le_max_right m (f a); omega
    · exact h2 a ha

theorem mayB_of : ∀ (k : Nat) (x : Ex), x.shp = true → deepN k x ≤ k → mayB k x = true
  | 0, x, _, h => by simp [deepN] at h
  | k + 1, x, hs, h => by
    rw [Ex.shp_eq, Bool.and_eq_true] at hs
    simp only [deepN] at h
    have h2 := (foldl_max_le (deepN k) x.args 0 k (by omega)).2
    simp only [mayB]
    rw [hs.1, Bool.true_and, List.all_eq_true]
    exact fun a ha => mayB_of k a (List.all_eq_true.1 hs.2 a ha) (h2 a ha)

/-- What a rule leaves: good, if it did not go wrong; it goes wrong once. -/
structure Good (st : PSt) (p : Ex × PSt) : Prop where
  wf : p.2.Wf
  good : p.2.bad = none → st.bad = none ∧ p.1.shp = true

theorem PSt.fails_bad (E : Int) (st : PSt) : (st.fails E).bad ≠ none := by
  obtain ⟨l, b⟩ := st
  cases b <;> simp [PSt.fails]
theorem PSt.must_good {E : Int} {st : PSt} {s : List UInt8} (h : (st.must E s).bad = none) : st.bad = none := by
  unfold PSt.must at h
  split at h
  · exact h
  · exact absurd h (PSt.fails_bad E st)

theorem rowL_good {one : PSt → Ex × PSt} (h1 : ∀ st, st.Wf → Good st (one st)) {sg : List (List UInt8 × Int)} (hsg : ∀ p ∈ sg, manyN p.2 = 2 ∧ p.2 ≠ 1) : ∀ (c : Nat) (x : Ex) (st st0 : PSt), Good st0 (x, st) → Good st0 (rowL one sg c x st)
  | 0, x, st, st0, h => h
  | c + 1, x, st, st0, h => by
    simp only [rowL]
    split
    · exact h
    · cases hg : signOf st sg with
      | none => exact h
      | some o =>
        dsimp only
        have hg1 := h1 st.next h.wf.next
        refine rowL_good h1 hsg c _ _ st0 ⟨hg1.wf, fun hb => ?_⟩
        obtain ⟨q1, q2⟩ := hg1.good hb
        obtain ⟨q3, q4⟩ := h.good q1
        refine ⟨q3, ?_⟩
        have ho : ∃ p ∈ sg, p.2 = o := by
          clear h hg1 q1 q2 q3 q4 hb h1 hsg
          induction sg with
          | nil => simp [signOf] at hg
          | cons p r ih =>
            obtain ⟨s, o'⟩ := p
            simp only [signOf] at hg
            split at hg
            · exact ⟨(s, o'), by simp, by simpa using hg⟩
            · obtain ⟨p, hp, he⟩ := ih hg
              exact ⟨p, by simp [hp], he⟩
        obtain ⟨p, hp, rfl⟩ := ho
        have hm := hsg p hp
        rw [Ex.shp_eq]
        simp only [Ex.args, List.all_cons, List.all_nil, Bool.and_true]
        rw [q2, q4]
        simp [shapeB, Ex.op, Ex.n, Ex.args, hm.1]

theorem lvSigns_ok (lv : Nat) : ∀ p ∈ lvSigns lv, manyN p.2 = 2 ∧ p.2 ≠ 1 := by
  match lv with
  | 0 => decide
  | 1 => decide
  | 2 => decide
  | 3 => decide
  | n + 4 => simp only [lvSigns]; decide

theorem shp_zero_args (op : Int) (h : manyN op = 0) : (Ex.mk op 0 []).shp = true := by simp [Ex.shp, Exs.shp, shapeB, Ex.op, Ex.n, Ex.args, h]

theorem prF_good (E : Int) (hE : 0 ≤ E) (N : Nat) : ∀ (lv : Nat) (st : PSt), st.need lv ≤ N → lv ≤ 6 → st.Wf → Good st (prF E lv st) := by
  induction N using Nat.strongRecOn with
  | ind N ih =>
    intro lv st hn hlv hw
    unfold PSt.need at hn
    have ih' : ∀ (lv' : Nat) (st' : PSt), 8 * st'.l.length + (7 - lv') < N → lv' ≤ 6 → st'.Wf → Good st' (prF E lv' st') := fun lv' st' h1 h2 h3 => ih _ h1 lv' st' (Nat.le_refl _) h2 h3
    by_cases h5 : lv < 5
    · rw [prF_row E lv st h5]
      -- the rule of the next level, at states that are no longer than st
      let f : PSt → Ex × PSt := fun s => if s.l.length ≤ st.l.length then prF E (lv + 1) s else (Ex.zero, ⟨[], some 0⟩)
      have hf : ∀ s, s.Wf → Good s (f s) := by
        intro s hs
        by_cases hl : s.l.length ≤ st.l.length
        · show Good s (if _ then _ else _)
          rw [if_pos hl]
          exact ih' (lv + 1) s (by omega) (by omega) hs
        · show Good s (if _ then _ else _)
          rw [if_neg hl]
          exact ⟨⟨by simp, fun b hb => by simp at hb; omega⟩, fun h => absurd h (by simp)⟩
      rw [rowL_congr (one := prF E (lv + 1)) (one' := f) (prF_len E (lv + 1)) _ st.l.length (fun s hs => by show _ = if _ then _ else _; rw [if_pos (by omega)]) _ _ _ (prF_len E (lv + 1) st)]
      exact rowL_good hf (lvSigns_ok lv) _ _ _ st (ih' (lv + 1) st (by omega) (by omega) hw)
    · by_cases h6 : lv = 5
      · subst h6
        rw [prF_unary]
        unfold prUnary
        split
        · rename_i hs
          have hl := PSt.next_lt hs
          have hg := ih' 5 st.next (by omega) (by omega) hw.next
          refine ⟨hg.wf, fun hb => ⟨(hg.good hb).1, ?_⟩⟩
          rw [Ex.shp_eq]
          simp only [Ex.args, List.all_cons, List.all_nil, Bool.and_true]
          rw [(hg.good hb).2]
          simp [shapeB, Ex.op, Ex.n, Ex.args, manyN]
        · split
          · rename_i _ hs
            have hl := PSt.next_lt hs
            have hg := ih' 5 st.next (by omega) (by omega) hw.next
            refine ⟨hg.wf, fun hb => ⟨(hg.good hb).1, ?_⟩⟩
            rw [Ex.shp_eq]
            simp only [Ex.args, List.all_cons, List.all_nil, Bool.and_true]
            rw [(hg.good hb).2]
            simp [shapeB, Ex.op, Ex.n, Ex.args, manyN]
          · exact ih' 6 st (by omega) (by omega) hw
      · obtain rfl : lv = 6 := by omega
        rw [prF_one]
        unfold prOne
        split
        · rename_i hb
          exact ⟨hw, fun h => by rw [h] at hb; simp at hb⟩
        · rename_i hbad
          have hb0 : st.bad = none := by cases h : st.bad <;> simp_all
          split
          · rename_i hnum
            refine ⟨hw.next, fun _ => ⟨hb0, ?_⟩⟩
            have h0 : 0 ≤ st.numN := by
              obtain ⟨l, b⟩ := st
              cases l with
              | nil => exact Int.le_refl 0
              | cons t l => exact (hw.1 t (by simp)).n
            simp [Ex.shp, Exs.shp, shapeB, Ex.op, Ex.n, Ex.args, h0, manyN]
          · split
            · exact ⟨hw.next, fun _ => ⟨hb0, shp_zero_args _ (by decide)⟩⟩
            · split
              · exact ⟨hw.next, fun _ => ⟨hb0, shp_zero_args _ (by decide)⟩⟩
              · split
                · exact ⟨hw.next, fun _ => ⟨hb0, shp_zero_args _ (by decide)⟩⟩
                · split
                  · rename_i hs
                    have hl := PSt.next_lt hs
                    have hg := ih' 0 st.next (by omega) (by omega) hw.next
                    refine ⟨hg.wf.must hE _, fun hb => ⟨hb0, (hg.good (PSt.must_good hb)).2⟩⟩
                  · split
                    · rename_i hs
                      have hl := PSt.next_lt hs
                      have g1 := ih' 0 st.next (by omega) (by omega) hw.next
                      have l1 := Nat.le_trans (PSt.must_le E (prF E 0 st.next).2 wThen) (prF_len E 0 st.next)
                      have g2 := ih' 0 ((prF E 0 st.next).2.must E wThen) (by omega) (by omega) (g1.wf.must hE _)
                      have l2 := Nat.le_trans (PSt.must_le E (prF E 0 ((prF E 0 st.next).2.must E wThen)).2 wElse) (prF_len E 0 ((prF E 0 st.next).2.must E wThen))
                      have g3 := ih' 0 ((prF E 0 ((prF E 0 st.next).2.must E wThen)).2.must E wElse) (by omega) (by omega) (g2.wf.must hE _)
                      refine ⟨g3.wf, fun hb => ⟨hb0, ?_⟩⟩
                      have q3 := g3.good hb
                      have q2 := g2.good (PSt.must_good q3.1)
                      have q1 := g1.good (PSt.must_good q2.1)
                      unfold prIf
                      rw [Ex.shp_eq]
                      simp only [Ex.args, List.all_cons, List.all_nil, Bool.and_true]
                      rw [q1.2, q2.2, q3.2]
                      simp [shapeB, Ex.op, Ex.n, Ex.args, manyN]
                    · exact ⟨hw.fails hE, fun h => absurd h (PSt.fails_bad E st)⟩

/-- What is read may be; what is not read has a place. -/
theorem parse_good (s : ByteArray) : ((parse s).2.2 = 0 → mayB 16 (parse s).1 = true ∧ deepN 16 (parse s).1 ≤ 16 ∧ (parse s).2.1 = 0) ∧ ((parse s).2.2 ≠ 0 → (parse s).1 = Ex.zero) ∧ 0 ≤ (parse s).2.1 := by
  obtain ⟨hw, ha⟩ := toks_wf s
  unfold parse
  split
  · rename_i h
    exact ⟨fun h0 => absurd h0 h, fun _ => rfl, ha⟩
  · have hst : (⟨(toks s).1, none⟩ : PSt).Wf := ⟨hw, fun b hb => by simp at hb⟩
    have hg := prF_good (runes s).length (by omega) _ 0 ⟨(toks s).1, none⟩ (Nat.le_refl _) (by omega) hst
    generalize prF _ 0 _ = p at *
    have hE : (0 : Int) ≤ (runes s).length := by omega
    generalize ((runes s).length : Int) = E at *
    unfold parseEnd
    have hw2 : (if p.2.l = [] then p.2 else p.2.fails E).Wf := by
      split
      · exact hg.wf
      · exact hg.wf.fails hE
    have hb2 : (if p.2.l = [] then p.2 else p.2.fails E).bad = none → p.2.bad = none := by
      split
      · exact id
      · exact fun h => absurd h (PSt.fails_bad E _)
    generalize (if p.2.l = [] then p.2 else p.2.fails E) = q at *
    obtain ⟨ql, qb⟩ := q
    cases qb with
    | some a => exact ⟨fun h => by simp at h, fun _ => rfl, hw2.2 a rfl⟩
    | none =>
      have hp := (hg.good (hb2 rfl)).2
      dsimp only
      split
      · exact ⟨fun h => by simp at h, fun _ => rfl, by simp⟩
      · rename_i hd
        exact ⟨fun _ => ⟨mayB_of 16 p.1 hp (by omega), by simpa using hd, rfl⟩, fun h => absurd rfl h, Int.le_refl 0⟩

end Go.Proofs.YtlkkigpjahlloaaDoor
