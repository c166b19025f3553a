/-
  Plain laws: tokens by whole runs of runes (as the reference reads them) are those that come rune by rune.
-/
import Derived.Test.YtjbchkgkapccnaaGreatDoorP7
import Derived.Test.YtjbchkgkapccnaaGreatDoorMW
namespace Go.Proofs.YtjbchkgkapccnaaGreatDoor
open Go.RowKit
set_option linter.unusedVariables false

theorem endTok_zero (o : List Tok) : endTok Tok.zero o = some o := rfl
theorem goes_zero (r : Int) : goesB Tok.zero.kind Tok.zero.text r = false := by unfold goesB; rw [if_neg (by decide)]; rfl

/-- A token that does not go on. -/
theorem tokGo_end (t : Tok) (j : Int) (out : List Tok) (rs : List Int) (h : ∀ r, rs.head? = some r → goesB t.kind t.text r = false) :
    tokGo t j out rs = match endTok t out with | none => ([], t.at_, 71) | some o => tokGo Tok.zero j o rs := by
  cases rs with
  | nil =>
    simp only [tokGo]
    cases endTok t out with
    | none => rfl
    | some o => simp [endTok_zero]
  | cons r rs =>
    simp only [tokGo]
    rw [h r rfl, goes_zero r]
    cases endTok t out with
    | none => rfl
    | some o => simp [endTok_zero]

/-- The text of runes. -/
def encAll (rs : List Int) : ByteArray := rs.foldl (fun a r => a ++ Utf8.encode r) { data := #[] }
theorem encAll_snoc (rs : List Int) (r : Int) : encAll (rs ++ [r]) = encAll rs ++ Utf8.encode r := by simp [encAll]
theorem encAll_size_aux : ∀ (rs : List Int) (a : ByteArray), (rs.foldl (fun a r => a ++ Utf8.encode r) a).size ≤ a.size + 4 * rs.length
  | [], a => by simp
  | r :: rs, a => by
    have h := encAll_size_aux rs (a ++ Utf8.encode r)
    have h2 := encode_size r
    rw [List.foldl_cons, List.length_cons]
    rw [ByteArray.size_append] at h
    omega
theorem encAll_size (rs : List Int) : (encAll rs).size ≤ 4 * rs.length := by
  have h := encAll_size_aux rs { data := #[] }
  have h0 : ({ data := #[] } : ByteArray).size = 0 := rfl
  unfold encAll
  omega
theorem empty_append (b : ByteArray) : ({ data := #[] } : ByteArray) ++ b = b := by
  apply ByteArray.ext
  rw [ByteArray.data_append]
  simp

theorem tokGo_run (k : Int) (n a : Int) (out : List Tok) (h3 : k ≠ 3) (h0 : k ≠ 0) (rest : List Int) : ∀ (run : List Int) (tx : ByteArray) (j : Int), (∀ r ∈ run, kindN r = k) →
    tokGo ⟨k, tx, n, a⟩ j out (run ++ rest) = tokGo ⟨k, run.foldl (fun a r => a ++ Utf8.encode r) tx, n, a⟩ (j + run.length) out rest
  | [], tx, j, _ => by simp
  | r :: run, tx, j, h => by
    have hr := h r List.mem_cons_self
    have hg : goesB k tx r = true := by
      unfold goesB
      rw [if_neg h3, decide_eq_true h0, decide_eq_true hr]; rfl
    simp only [List.cons_append, tokGo, List.foldl_cons, List.length_cons]
    rw [if_pos hg, tokGo_run k n a out h3 h0 rest run (tx ++ Utf8.encode r) (j + 1) (fun x hx => h x (List.mem_cons_of_mem _ hx))]
    congr 1
    omega

/-- From between two tokens on. -/
theorem tokGo_zero (j : Int) (out : List Tok) (r : Int) (rs : List Int) : tokGo Tok.zero j out (r :: rs) =
    if r = 32 ∨ r = 9 then tokGo Tok.zero (j + 1) out rs
    else if kindN r = 0 then ([], j + 1, 70) else tokGo ⟨kindN r, Utf8.encode r, 0, j + 1⟩ (j + 1) out rs := by
  simp only [tokGo]
  rw [goes_zero r]
  simp [endTok_zero]

/-- Signs: which goes on with which. -/
theorem sign_goes (x r : Int) (h : kindN x = 3) : goesB 3 (Utf8.encode x) r = (decide (r = 61) && (decide (x = 33) || decide (x = 60))) := by
  have hs : signB x = true := by
    unfold kindN at h
    split at h
    · omega
    · split at h
      · assumption
      · split at h <;> omega
  unfold goesB
  rw [if_pos rfl]
  congr 1
  unfold signB at hs
  simp only [decide_eq_true_eq] at hs
  rcases hs with rfl | rfl | rfl | rfl | rfl | rfl | rfl | rfl | rfl | rfl | rfl | rfl <;> decide +kernel
theorem sign_goes2 (x r : Int) (h : x = 33 ∨ x = 60) : goesB 3 (Utf8.encode x ++ Utf8.encode 61) r = false := by
  unfold goesB
  rw [if_pos rfl]
  have e : (decide ((Utf8.encode x ++ Utf8.encode 61).toList = [33]) || decide ((Utf8.encode x ++ Utf8.encode 61).toList = [60])) = false := by
    rcases h with rfl | rfl <;> decide +kernel
  rw [e, Bool.and_false]

/-- A sign of one rune. -/
theorem tokGo_sign1 (x : Int) (h : kindN x = 3) (k : Int) (out : List Tok) (rest : List Int) (hn : ¬ ((x = 33 ∨ x = 60) ∧ rest.head? = some 61)) :
    tokGo ⟨3, Utf8.encode x, 0, k⟩ k out rest = tokGo Tok.zero k (out ++ [⟨3, Utf8.encode x, 0, k⟩]) rest := by
  rw [tokGo_end]
  · rfl
  · intro r hr
    dsimp only
    rw [sign_goes x r h]
    by_cases h61 : r = 61
    · subst h61
      have : ¬ (x = 33 ∨ x = 60) := fun hx => hn ⟨hx, hr⟩
      simp only [not_or] at this
      rw [decide_eq_false this.1, decide_eq_false this.2]; rfl
    · rw [decide_eq_false h61]; rfl
/-- .. of two. -/
theorem tokGo_sign2 (x : Int) (h : kindN x = 3) (hx : x = 33 ∨ x = 60) (k : Int) (out : List Tok) (rest : List Int) :
    tokGo ⟨3, Utf8.encode x, 0, k⟩ k out (61 :: rest) = tokGo Tok.zero (k + 1) (out ++ [⟨3, Utf8.encode x ++ Utf8.encode 61, 0, k⟩]) rest := by
  have hg : goesB 3 (Utf8.encode x) 61 = true := by rw [sign_goes x 61 h]; rcases hx with rfl | rfl <;> rfl
  simp only [tokGo]
  rw [if_pos hg, tokGo_end]
  · rfl
  · intro r _
    exact sign_goes2 x r hx
theorem encAll_one (x : Int) : encAll [x] = Utf8.encode x := by simp only [encAll, List.foldl_cons, List.foldl_nil, empty_append]
theorem encAll_two (x y : Int) : encAll [x, y] = Utf8.encode x ++ Utf8.encode y := by simp only [encAll, List.foldl_cons, List.foldl_nil, empty_append]

/-- A name. -/
theorem tokGo_name (x : Int) (h : kindN x = 1) (k : Int) (out : List Tok) (run rest : List Int) (hr : ∀ r ∈ run, kindN r = 1) (hn : ∀ r, rest.head? = some r → kindN r ≠ 1) :
    tokGo ⟨1, Utf8.encode x, 0, k⟩ k out (run ++ rest) = tokGo Tok.zero (k + run.length) (out ++ [⟨1, encAll (x :: run), 0, k⟩]) rest := by
  rw [tokGo_run 1 0 k out (by decide) (by decide) rest run _ _ hr, tokGo_end]
  · have e : encAll (x :: run) = run.foldl (fun a r => a ++ Utf8.encode r) (Utf8.encode x) := by simp only [encAll, List.foldl_cons, empty_append]
    rw [e]
    rfl
  · intro r hr
    have := hn r hr
    unfold goesB
    dsimp only
    rw [if_neg (by decide), decide_eq_false this, Bool.and_false]

theorem runes_encAll_digits (l : List Int) (h : ∀ r ∈ l, kindN r = 2) : ∀ tx : ByteArray, (∀ b ∈ tx.data.toList, b.toNat < 128) →
    runes (l.foldl (fun a r => a ++ Utf8.encode r) tx) = runes tx ++ l := by
  induction l with
  | nil => intro tx _; simp
  | cons r l ih =>
    intro tx htx
    have hr := h r List.mem_cons_self
    have hd := digit_encode r hr
    have hb : ∀ b ∈ (tx ++ Utf8.encode r).data.toList, b.toNat < 128 := by
      intro b hb
      rw [ByteArray.data_append, Array.toList_append, List.mem_append] at hb
      rcases hb with hb | hb
      · exact htx b hb
      · have := hd b hb; omega
    rw [List.foldl_cons, ih (fun x hx => h x (List.mem_cons_of_mem _ hx)) _ hb, runes_ascii _ hb, runes_ascii _ htx, ByteArray.data_append, Array.toList_append, List.map_append, List.append_assoc]
    congr 1
    have hv : 48 ≤ r ∧ r ≤ 57 := by
      unfold kindN at hr
      by_cases h0 : 48 ≤ r ∧ r ≤ 57
      · exact h0
      · rw [if_neg h0] at hr
        split at hr
        · omega
        · split at hr <;> omega
    have he : (Utf8.encode r).data.toList = [UInt8.ofNat r.toNat] := by
      unfold Utf8.encode
      have hv : Utf8.valid r = true := by rw [validRune_eq]; unfold validRune; simp; omega
      rw [if_pos hv]
      dsimp only
      rw [if_pos (by omega)]
    rw [he]
    simp only [List.map_cons, List.map_nil, List.cons_append, List.nil_append]
    congr 1
    rw [UInt8.toNat_ofNat']
    omega

/-- A number. -/
theorem tokGo_num (x : Int) (h : kindN x = 2) (k : Int) (out : List Tok) (run rest : List Int) (hr : ∀ r ∈ run, kindN r = 2) (hn : ∀ r, rest.head? = some r → kindN r ≠ 2) :
    tokGo ⟨2, Utf8.encode x, 0, k⟩ k out (run ++ rest) = match numGo 0 (x :: run) with
      | none => ([], k, 71)
      | some m => tokGo Tok.zero (k + run.length) (out ++ [⟨2, { data := #[] }, m, k⟩]) rest := by
  rw [tokGo_run 2 0 k out (by decide) (by decide) rest run _ _ hr, tokGo_end]
  · have e : runes (run.foldl (fun a r => a ++ Utf8.encode r) (Utf8.encode x)) = x :: run := by
      have h1 := runes_encAll_digits (x :: run) (by intro r hr'; rcases List.mem_cons.1 hr' with rfl | h'; exact h; exact hr r h') { data := #[] } (by intro b hb; simp at hb)
      simp only [List.foldl_cons, empty_append] at h1
      rw [h1]
      rfl
    unfold endTok
    dsimp only
    rw [if_pos rfl, e]
    cases numGo 0 (x :: run) with
    | none => rfl
    | some m => rfl
  · intro r hr
    have := hn r hr
    unfold goesB
    dsimp only
    rw [if_neg (by decide), decide_eq_false this, Bool.and_false]

/-- What a rune is, as the reference says it. -/
def whatN (r : Int) : Int := if 48 ≤ r ∧ r ≤ 57 then 2 else if r = 32 ∨ r = 9 then 4 else if signB r then 3 else if nameB (Utf8.encode r) then 1 else 0
theorem what_kind (r : Int) : whatN r = if r = 32 ∨ r = 9 then 4 else kindN r := by
  unfold whatN kindN
  by_cases h : 48 ≤ r ∧ r ≤ 57
  · rw [if_pos h, if_neg (by omega), if_pos h]
  · rw [if_neg h]
    by_cases hb : r = 32 ∨ r = 9
    · rw [if_pos hb, if_pos hb]
    · rw [if_neg hb, if_neg hb, if_neg h]
theorem kind_blank (r : Int) (h : r = 32 ∨ r = 9) : kindN r = 0 := by rcases h with rfl | rfl <;> decide +kernel

/-- What is known when a token's end has been found. -/
def RunFact (s : ByteArray) (k : Nat) (K : Int) (E : Nat) (out : List Tok) : Prop :=
  (K = 2 → ∀ r ∈ ((runes s).drop k).take (E - k), 48 ≤ r ∧ r ≤ 57) ∧
  if K = 2 then (match numGo 0 (((runes s).drop k).take (E - k)) with
    | none => ([], (k : Int), 71)
    | some m => tokGo Tok.zero ((E : Int) - 1) (out ++ [⟨2, { data := #[] }, m, k⟩]) ((runes s).drop E)) = toks s
  else tokGo Tok.zero ((E : Int) - 1) (out ++ [⟨K, encAll (((runes s).drop k).take (E - k)), 0, k⟩]) ((runes s).drop E) = toks s

theorem kind_digit (r : Int) (hr : kindN r = 2) : 48 ≤ r ∧ r ≤ 57 := by
  unfold kindN at hr
  by_cases h0 : 48 ≤ r ∧ r ≤ 57
  · exact h0
  · rw [if_neg h0] at hr
    split at hr
    · omega
    · split at hr <;> omega
theorem drop_cut (l : List Int) (k E : Nat) (h1 : k < E) (h2 : E ≤ l.length) : l.drop (k + 1) = (l.drop (k + 1)).take (E - (k + 1)) ++ l.drop E := by
  have := List.take_append_drop (E - (k + 1)) (l.drop (k + 1))
  rw [List.drop_drop, show k + 1 + (E - (k + 1)) = E by omega] at this
  exact this.symm
theorem take_cut (l : List Int) (k E : Nat) (h1 : k < E) (h2 : k < l.length) : (l.drop k).take (E - k) = l[k] :: (l.drop (k + 1)).take (E - (k + 1)) := by
  rw [List.drop_eq_getElem_cons h2, show E - k = (E - (k + 1)) + 1 by omega, List.take_succ_cons]

theorem runFact_run (s : ByteArray) (k : Nat) (K x : Int) (E : Nat) (out : List Tok) (hK : K = 1 ∨ K = 2) (hk : k < (runes s).length) (hx : (runes s)[k] = x) (hkx : kindN x = K)
    (hgo : tokGo ⟨K, Utf8.encode x, 0, k⟩ k out ((runes s).drop (k + 1)) = toks s) (h1 : k < E) (h2 : E ≤ (runes s).length)
    (hrun : ∀ r ∈ ((runes s).drop (k + 1)).take (E - (k + 1)), kindN r = K) (hend : ∀ r, ((runes s).drop E).head? = some r → kindN r ≠ K) : RunFact s k K E out := by
  have hlen : (((runes s).drop (k + 1)).take (E - (k + 1))).length = E - (k + 1) := by simp; omega
  rw [drop_cut (runes s) k E h1 h2] at hgo
  unfold RunFact
  rw [take_cut (runes s) k E h1 hk, hx]
  have he : ((E : Int) - 1) = (k : Int) + ((((runes s).drop (k + 1)).take (E - (k + 1))).length : Nat) := by rw [hlen]; omega
  rw [he]
  refine ⟨?_, ?_⟩
  · rintro rfl r hr
    rcases List.mem_cons.1 hr with rfl | hr
    · exact kind_digit _ hkx
    · exact kind_digit _ (hrun r hr)
  rcases hK with rfl | rfl
  · rw [if_neg (by decide), ← hgo, tokGo_name x hkx _ _ _ _ hrun hend]
  · rw [if_pos rfl, ← hgo, tokGo_num x hkx _ _ _ _ hrun hend]

theorem runFact_sign1 (s : ByteArray) (k : Nat) (x : Int) (out : List Tok) (hk : k < (runes s).length) (hx : (runes s)[k] = x) (hkx : kindN x = 3)
    (hgo : tokGo ⟨3, Utf8.encode x, 0, k⟩ k out ((runes s).drop (k + 1)) = toks s) (hn : ¬ ((x = 33 ∨ x = 60) ∧ ((runes s).drop (k + 1)).head? = some 61)) : RunFact s k 3 (k + 1) out := by
  rw [tokGo_sign1 x hkx _ _ _ hn] at hgo
  unfold RunFact
  refine ⟨fun h => absurd h (by decide), ?_⟩
  rw [if_neg (by decide), take_cut (runes s) k (k + 1) (by omega) hk, hx, Nat.sub_self, List.take_zero, encAll_one, ← hgo]
  congr 1
  omega
theorem runFact_sign2 (s : ByteArray) (k : Nat) (x : Int) (out : List Tok) (hk : k + 1 < (runes s).length) (hx : (runes s)[k] = x) (hkx : kindN x = 3)
    (hgo : tokGo ⟨3, Utf8.encode x, 0, k⟩ k out ((runes s).drop (k + 1)) = toks s) (h3 : x = 33 ∨ x = 60) (hy : (runes s)[k + 1] = 61) : RunFact s k 3 (k + 2) out := by
  rw [List.drop_eq_getElem_cons hk, hy, tokGo_sign2 x hkx h3] at hgo
  unfold RunFact
  refine ⟨fun h => absurd h (by decide), ?_⟩
  rw [if_neg (by decide), take_cut (runes s) k (k + 2) (by omega) (by omega), hx, show k + 2 - (k + 1) = 1 by omega, List.drop_eq_getElem_cons hk, hy, List.take_succ_cons, List.take_zero, encAll_two, ← hgo]
  congr 1
  omega

end Go.Proofs.YtjbchkgkapccnaaGreatDoor
