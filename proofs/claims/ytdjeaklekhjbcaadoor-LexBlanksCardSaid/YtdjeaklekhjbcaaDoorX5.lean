/-
  For LexBlanks: plain laws: tokens with blanks between them are read as the same tokens.
-/
import Derived.Test.YtdjeaklekhjbcaaDoorX4
import Derived.Test.YtdjeaklekhjbcaaDoorX2
namespace Go.Proofs.YtdjeaklekhjbcaaDoor
open Num
set_option linter.unusedVariables false

/-- A token's bytes. -/
def tokB (t : Tok) : ByteArray := if t.kind = 2 then decB t.n.toNat else t.text
def textOf (bl : ByteArray) (l : List Tok) : ByteArray := l.foldl (fun s t => s ++ (tokB t ++ bl)) { data := #[] }
theorem textOf_snoc (bl : ByteArray) (l : List Tok) (t : Tok) : textOf bl (l ++ [t]) = textOf bl l ++ (tokB t ++ bl) := by simp [textOf]

/-- Bounds. -/
theorem endTok_small {t : Tok} {out o : List Tok} {M : Nat} (ho : ∀ u ∈ out, u.text.size ≤ M) (ht : t.text.size ≤ M) (he : endTok t out = some o) :
    (∀ u ∈ o, u.text.size ≤ M) ∧ o.length ≤ out.length + 1 ∧ (t.kind = 0 → o.length ≤ out.length) := by
  have put : ∀ u : Tok, u.text.size ≤ M → t.kind ≠ 0 → o = out ++ [u] → (∀ u ∈ o, u.text.size ≤ M) ∧ o.length ≤ out.length + 1 ∧ (t.kind = 0 → o.length ≤ out.length) := by
    intro u hu hk e
    subst e
    refine ⟨fun v hv => ?_, by simp, fun h => absurd h hk⟩
    rcases List.mem_append.1 hv with hv | hv
    · exact ho v hv
    · simp at hv; subst hv; exact hu
  unfold endTok at he
  by_cases hk : t.kind = 2
  · rw [if_pos hk] at he
    cases hm : numGo 0 (runes t.text) with
    | none => rw [hm] at he; simp at he
    | some m =>
      rw [hm] at he
      simp only [Option.some.injEq] at he
      exact put ⟨2, { data := #[] }, m, t.at_⟩ (Nat.zero_le _) (by omega) he.symm
  · rw [if_neg hk] at he
    by_cases h0 : t.kind = 0
    · rw [if_pos h0] at he
      simp only [Option.some.injEq] at he
      subst he
      exact ⟨ho, by omega, fun _ => Nat.le_refl _⟩
    · rw [if_neg h0] at he
      simp only [Option.some.injEq] at he
      exact put _ ht h0 he.symm
theorem tokGo_small (M L : Nat) : ∀ (rs : List Int) (t : Tok) (pos : Int) (out : List Tok), (∀ u ∈ out, u.text.size ≤ M) → t.text.size + 4 * rs.length ≤ M → out.length + rs.length + (if t.kind = 0 then 0 else 1) ≤ L →
    (∀ u ∈ (tokGo t pos out rs).1, u.text.size ≤ M) ∧ (tokGo t pos out rs).1.length ≤ L
  | [], t, pos, out, ho, ht, hL => by
    simp only [tokGo]
    cases he : endTok t out with
    | none => exact ⟨by simp, Nat.zero_le _⟩
    | some o =>
      obtain ⟨h1, h2, h3⟩ := endTok_small ho (by simpa using ht) he
      refine ⟨h1, ?_⟩
      by_cases hk : t.kind = 0
      · have := h3 hk; simp [hk] at hL; show o.length ≤ L; omega
      · simp [hk] at hL; show o.length ≤ L; omega
  | r :: rs, t, pos, out, ho, ht, hL => by
    have hes := encode_size r
    simp only [List.length_cons] at ht hL
    simp only [tokGo]
    split
    · exact tokGo_small M L rs _ _ _ ho (by show (t.text ++ Utf8.encode r).size + _ ≤ M; rw [ByteArray.size_append]; omega) (by show _ + (if t.kind = 0 then 0 else 1) ≤ L; omega)
    · cases he : endTok t out with
      | none => exact ⟨by simp, Nat.zero_le _⟩
      | some o =>
        obtain ⟨h1, h2, h3⟩ := endTok_small ho (by omega) he
        dsimp only
        have hl : o.length + rs.length + 1 ≤ L := by
          by_cases hk : t.kind = 0
          · have := h3 hk; simp [hk] at hL; omega
          · simp [hk] at hL; omega
        split
        · exact tokGo_small M L rs _ _ _ h1 (by show 0 + _ ≤ M; omega) (by show _ + 0 ≤ L; omega)
        · split
          · exact ⟨by simp, Nat.zero_le _⟩
          · exact tokGo_small M L rs _ _ _ h1 (by show (Utf8.encode r).size + _ ≤ M; omega) (by show _ + (if kindN r = 0 then 0 else 1) ≤ L; split <;> omega)
theorem toks_small (s : ByteArray) : (∀ u ∈ (toks s).1, u.text.size ≤ 1600) ∧ (toks s).1.length ≤ 400 := by
  unfold toks
  split
  · exact ⟨by simp, Nat.zero_le _⟩
  · have := runesAt_length s 0
    exact tokGo_small 1600 400 _ _ _ _ (by simp) (by show 0 + 4 * (runesAt s 0).length ≤ 1600; omega) (by show 0 + (runesAt s 0).length + 0 ≤ 400; omega)

/-- A token's runes. -/
theorem digR_valid (u : Nat) : ∀ r ∈ digR u, Utf8.valid r = true := by
  intro r hr
  have := digR_mem u r hr
  unfold Utf8.valid
  simp only [Bool.or_eq_true, Bool.and_eq_true, decide_eq_true_eq]
  omega
theorem digR_enc (u : Nat) : encL (digR u) = decB u := by
  have aux : ∀ l : List UInt8, (∀ b ∈ l, b.toNat < 128) → encL (l.map fun b => (b.toNat : Int)) = ⟨l.toArray⟩ := by
    intro l
    induction l with
    | nil => intro _; rfl
    | cons b l ih =>
      intro h
      simp only [List.map_cons, encL]
      rw [ih fun c hc => h c (by simp [hc])]
      have hb := h b (by simp)
      have he : Utf8.encode (b.toNat : Int) = ⟨#[b]⟩ := by
        unfold Utf8.encode
        have hv : Utf8.valid (b.toNat : Int) = true := by
          unfold Utf8.valid
          simp only [Bool.or_eq_true, Bool.and_eq_true, decide_eq_true_eq]
          omega
        rw [if_pos hv]
        dsimp only
        rw [if_pos (by omega)]
        simp
      rw [he]
      apply ByteArray.ext
      rw [ByteArray.data_append]
      apply Array.ext'
      simp
  exact aux _ (dec_mem u)

theorem sign_valid {x : Int} (h : kindN x = 3) : Utf8.valid x = true := by
  have hs : signB x = true := by
    unfold kindN at h
    split at h
    · omega
    · split at h
      · assumption
      · split at h <;> omega
  unfold signB at hs
  simp only [decide_eq_true_eq] at hs
  rcases hs with rfl | rfl | rfl | rfl | rfl | rfl | rfl | rfl | rfl | rfl | rfl | rfl <;> decide

/-- A token in full, and a blank behind it. -/
theorem full_goes {t : Tok} (h : Full t) (b : Int) (hb : b = 32 ∨ b = 9) : ∃ R : List Int, R ≠ [] ∧ (∀ r ∈ R, Utf8.valid r = true) ∧ tokB t = encL R ∧
    ∀ (j : Int) (out : List Tok) (rest : List Int), ∃ j' : Int, tokGo Tok.zero j out (R ++ b :: rest) = tokGo Tok.zero j' (out ++ [{ t with at_ := j + 1 }]) (b :: rest) := by
  have hb0 := kind_blank b hb
  have hb61 : b ≠ 61 := by omega
  have hn : ∀ (k : Int) (rest : List Int), k ≠ 0 → ∀ r, (b :: rest).head? = some r → kindN r ≠ k := by
    intro k rest hk r hr
    simp only [List.head?_cons, Option.some.injEq] at hr
    subst hr
    omega
  have begin_ : ∀ (x : Int), kindN x ≠ 0 → ∀ (j : Int) (out : List Tok) (rs : List Int), tokGo Tok.zero j out (x :: rs) = tokGo ⟨kindN x, Utf8.encode x, 0, j + 1⟩ (j + 1) out rs := by
    intro x hx j out rs
    have hbx : ¬ (x = 32 ∨ x = 9) := fun h => hx (kind_blank x h)
    rw [tokGo_zero, if_neg hbx, if_neg hx]
  cases h with
  | name x run at_ hx =>
    refine ⟨x :: run, by simp, fun r hr => (hx r hr).2, ?_, fun j out rest => ⟨j + 1 + run.length, ?_⟩⟩
    · unfold tokB
      rw [if_neg (by simp)]
    · have h1 := (hx x (by simp)).1
      rw [List.cons_append, begin_ x (by omega), h1, tokGo_name x h1 _ _ run _ (fun r hr => (hx r (by simp [hr])).1) (hn 1 rest (by decide))]
      have e : encAll (x :: run) = encL (x :: run) := by
        have aux : ∀ (l : List Int) (a : ByteArray), l.foldl (fun a r => a ++ Utf8.encode r) a = a ++ encL l := by
          intro l
          induction l with
          | nil => intro a; simp only [List.foldl_nil, encL]; rw [app_empty]
          | cons r l ih => intro a; simp only [List.foldl_cons, encL]; rw [ih, ByteArray.append_assoc]
        unfold encAll
        rw [aux, empty_app]
      rw [e]
  | num n at_ h0 h9 =>
    obtain ⟨u, rfl⟩ : ∃ u : Nat, n = (u : Int) := ⟨n.toNat, by omega⟩
    refine ⟨digR u, digR_ne u, digR_valid u, ?_, ?_⟩
    · unfold tokB
      rw [if_pos rfl, digR_enc]
      rfl
    · have hm := numGo_dig u (by omega)
      have hd := digR_mem u
      have hne := digR_ne u
      generalize digR u = D at *
      cases D with
      | nil => exact absurd rfl hne
      | cons x run =>
        intro j out rest
        refine ⟨j + 1 + run.length, ?_⟩
        have h1 := kindN_digit (hd x (by simp))
        rw [List.cons_append, begin_ x (by omega), h1, tokGo_num x h1 _ _ run _ (fun r hr => kindN_digit (hd r (by simp [hr]))) (hn 2 rest (by decide)), hm]
  | sign x at_ hk =>
    refine ⟨[x], by simp, ?_, ?_, fun j out rest => ⟨j + 1, ?_⟩⟩
    · intro r hr
      simp at hr
      subst hr
      exact sign_valid hk
    · unfold tokB
      rw [if_neg (by simp), encL_one]
    · rw [List.cons_append, begin_ x (by omega), hk, List.nil_append, tokGo_sign1 x hk _ _ _ (by simp [hb61])]
  | sign2 x at_ hk hx =>
    refine ⟨[x, 61], by simp, ?_, ?_, fun j out rest => ⟨j + 1 + 1, ?_⟩⟩
    · intro r hr
      simp at hr
      rcases hr with rfl | rfl
      · exact sign_valid hk
      · decide
    · unfold tokB
      rw [if_neg (by simp)]
      show _ = encL ([x] ++ [61])
      rw [encL_append, encL_one, encL_one]
    · rw [List.cons_append, begin_ x (by omega), hk, List.cons_append, List.nil_append, tokGo_sign2 x hk hx]

/-- The same tokens, but for their places. -/
inductive Alike : List Tok → List Tok → Prop
  | nil : Alike [] []
  | cons {a b : Tok} {l m : List Tok} : b.kind = a.kind ∧ b.text = a.text ∧ b.n = a.n → Alike l m → Alike (a :: l) (b :: m)
theorem Alike.len {l m : List Tok} (h : Alike l m) : m.length = l.length := by
  induction h with
  | nil => rfl
  | cons _ _ ih => simp [ih]
theorem Alike.at_ {l m : List Tok} (h : Alike l m) : ∀ (i : Nat) (h1 : i < l.length) (h2 : i < m.length), (m[i]'h2).kind = (l[i]'h1).kind ∧ (m[i]'h2).text = (l[i]'h1).text ∧ (m[i]'h2).n = (l[i]'h1).n := by
  induction h with
  | nil => intro i h1; simp at h1
  | cons h0 _ ih =>
    intro i h1 h2
    cases i with
    | zero => exact h0
    | succ i => exact ih i (by simpa using h1) (by simpa using h2)

theorem tokGo_blanks (bR : List Int) (hb : bR = [32] ∨ bR = [9, 32]) : ∀ (l : List Tok), (∀ u ∈ l, Full u) → ∃ R : List Int, (∀ r ∈ R, Utf8.valid r = true) ∧
    (∀ s : ByteArray, l.foldl (fun s t => s ++ (tokB t ++ encL bR)) s = s ++ encL R) ∧ ∀ (j : Int) (out : List Tok), ∃ m, tokGo Tok.zero j out R = (out ++ m, 0, 0) ∧ Alike l m
  | [], _ => ⟨[], by simp, fun s => by simp only [List.foldl_nil, encL]; rw [app_empty], fun j out => ⟨[], by simp only [tokGo, endTok_zero, List.append_nil], .nil⟩⟩
  | t :: l, h => by
    obtain ⟨R, h1, h2, h3⟩ := tokGo_blanks bR hb l fun u hu => h u (by simp [hu])
    have hbv : ∀ r ∈ bR, Utf8.valid r = true := by rcases hb with rfl | rfl <;> decide
    have hbg : ∀ (j : Int) (out : List Tok) (rest : List Int), ∃ j' : Int, tokGo Tok.zero j out (bR ++ rest) = tokGo Tok.zero j' out rest := by
      intro j out rest
      rcases hb with rfl | rfl
      · refine ⟨j + 1, ?_⟩
        rw [List.cons_append, tokGo_zero, if_pos (by omega)]
        rfl
      · refine ⟨j + 1 + 1, ?_⟩
        rw [List.cons_append, tokGo_zero, if_pos (by omega), List.cons_append, tokGo_zero, if_pos (by omega)]
        rfl
    obtain ⟨b, bs, rfl, hb1⟩ : ∃ b bs, bR = b :: bs ∧ (b = 32 ∨ b = 9) := by
      rcases hb with rfl | rfl
      · exact ⟨32, [], rfl, .inl rfl⟩
      · exact ⟨9, [32], rfl, .inr rfl⟩
    obtain ⟨Q, q1, q2, q3, q4⟩ := full_goes (h t (by simp)) b hb1
    refine ⟨Q ++ ((b :: bs) ++ R), ?_, ?_, ?_⟩
    · intro r hr
      rcases List.mem_append.1 hr with hr | hr
      · exact q2 r hr
      · rcases List.mem_append.1 hr with hr | hr
        · exact hbv r hr
        · exact h1 r hr
    · intro s
      rw [List.foldl_cons, h2, q3, encL_append, encL_append]
      simp only [ByteArray.append_assoc]
    · intro j out
      obtain ⟨j1, e1⟩ := q4 j out (bs ++ R)
      obtain ⟨j2, e2⟩ := hbg j1 (out ++ [{ t with at_ := j + 1 }]) R
      obtain ⟨m, e3, hA⟩ := h3 j2 (out ++ [{ t with at_ := j + 1 }])
      refine ⟨{ t with at_ := j + 1 } :: m, ?_, .cons ⟨rfl, rfl, rfl⟩ hA⟩
      rw [List.cons_append] at e2 ⊢
      rw [e1, e2, e3]
      simp

def blankS : ByteArray := { data := #[32] }
def tabS : ByteArray := { data := #[9, 32] }
theorem toks_blanks (s : ByteArray) (bl : ByteArray) (hb : bl = blankS ∨ bl = tabS) :
    (400 < (textOf bl (toks s).1).size ∧ toks (textOf bl (toks s).1) = ([], 0, 3)) ∨
    (¬ 400 < (textOf bl (toks s).1).size ∧ ∃ m, toks (textOf bl (toks s).1) = (m, 0, 0) ∧ Alike (toks s).1 m ∧ Rise (toks s).1 ∧ Rise m) := by
  obtain ⟨hF, hR⟩ := toks_full s
  obtain ⟨bR, rfl, hb2⟩ : ∃ bR, bl = encL bR ∧ (bR = [32] ∨ bR = [9, 32]) := by
    rcases hb with rfl | rfl
    · exact ⟨[32], by decide +kernel, .inl rfl⟩
    · exact ⟨[9, 32], by decide +kernel, .inr rfl⟩
  obtain ⟨R, h1, h2, h3⟩ := tokGo_blanks bR hb2 _ hF
  have hR2 := (toks_full (textOf (encL bR) (toks s).1)).2
  have ht : textOf (encL bR) (toks s).1 = encL R := by
    unfold textOf
    rw [h2, empty_app]
  rw [ht] at hR2 ⊢
  by_cases h4 : 400 < (encL R).size
  · left
    refine ⟨h4, ?_⟩
    unfold toks
    rw [if_pos h4]
  · right
    obtain ⟨m, hm, hA⟩ := h3 (-1) []
    have e : toks (encL R) = (m, 0, 0) := by
      unfold toks
      rw [if_neg h4, runes_encL R h1, hm]
      rfl
    rw [e] at hR2
    exact ⟨h4, m, e, hA, hR, hR2⟩

theorem textOf_size (bl : ByteArray) (hbl : bl.size ≤ 2) (l : List Tok) (hl : ∀ u ∈ l, u.text.size ≤ 1600) (hn : ∀ u ∈ l, Full u) : (textOf bl l).size ≤ 1602 * l.length := by
  have h1 : ∀ u ∈ l, (tokB u).size ≤ 1600 := by
    intro u hu
    unfold tokB
    split
    · have h3 := hn u hu
      cases h3 with
      | num n at_ h0 h9 =>
        have := dec_len n.toNat (by omega)
        rw [decB_size]
        show (Lib.decDigits n.toNat).length ≤ 1600
        omega
      | _ => simp at *
    · exact hl u hu
  have aux : ∀ (l : List Tok) (s : ByteArray), (∀ u ∈ l, (tokB u).size ≤ 1600) → (l.foldl (fun s t => s ++ (tokB t ++ bl)) s).size ≤ s.size + 1602 * l.length := by
    intro l
    induction l with
    | nil => intro s _; simp
    | cons t l ih =>
      intro s h
      rw [List.foldl_cons]
      have := ih (s ++ (tokB t ++ bl)) fun u hu => h u (by simp [hu])
      have h2 := h t (by simp)
      rw [ByteArray.size_append, ByteArray.size_append] at this
      simp only [List.length_cons]
      omega
  have := aux l { data := #[] } h1
  have h0 : ({ data := #[] } : ByteArray).size = 0 := rfl
  unfold textOf
  omega

end Go.Proofs.YtdjeaklekhjbcaaDoor
