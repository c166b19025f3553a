/-
  Plain law: the tokens of a line say its expression; so it is read as it.
-/
import Derived.Test.YtjbchkgkapccnaaGreatDoorTD
import Derived.Test.YtjbchkgkapccnaaGreatDoorMT
import Derived.Test.YtjbchkgkapccnaaGreatDoorX2
import Derived.Test.YtjbchkgkapccnaaGreatDoorY1
import Derived.Test.YtjbchkgkapccnaaGreatDoorMP
namespace Go.Proofs.YtjbchkgkapccnaaGreatDoor
set_option linter.unusedVariables false

/-- A text's bytes as runes. -/
def rb (s : ByteArray) : List Int := s.data.toList.map fun b => (b.toNat : Int)
theorem rb_append (s t : ByteArray) : rb (s ++ t) = rb s ++ rb t := by
  unfold rb
  rw [ByteArray.data_append, Array.toList_append, List.map_append]
def Asc (s : ByteArray) : Prop := ∀ b ∈ s.data.toList, b.toNat < 128
instance (s : ByteArray) : Decidable (Asc s) := by unfold Asc; infer_instance
theorem Asc.append {s t : ByteArray} (h : Asc s) (k : Asc t) : Asc (s ++ t) := by
  intro b hb
  rw [ByteArray.data_append, Array.toList_append, List.mem_append] at hb
  exact hb.elim (h b) (k b)

/-- What may stand behind a line. -/
def Ends (rest : List Int) : Prop := ∀ r, rest.head? = some r → r = 32 ∨ r = 41
theorem kindN_of (r : Int) (h : r = 32 ∨ r = 41) : kindN r ≠ 1 ∧ kindN r ≠ 2 := by
  rcases h with rfl | rfl
  · rw [kindN_32z]; decide
  · rw [kindN_41]; decide

theorem st_blank (pos : Int) (out : List Tok) (rest : List Int) : tokGo Tok.zero pos out (32 :: rest) = tokGo Tok.zero (pos + 1) out rest := by
  rw [tokGo_zero, if_pos (.inl rfl)]
theorem st_sign {x : Int} {w : List UInt8} (hk : kindN x = 3) (he : (Utf8.encode x).toList = w) (pos : Int) (out : List Tok) (rest : List Int) (hn : ¬ ((x = 33 ∨ x = 60) ∧ rest.head? = some 61)) :
    ∃ t pos', Sg t w ∧ tokGo Tok.zero pos out (x :: rest) = tokGo Tok.zero pos' (out ++ [t]) rest := by
  have hb : ¬ (x = 32 ∨ x = 9) := fun h => by rw [kind_blank x h] at hk; omega
  refine ⟨⟨3, Utf8.encode x, 0, pos + 1⟩, pos + 1, ⟨rfl, he⟩, ?_⟩
  rw [tokGo_zero, if_neg hb, if_neg (by omega), hk]
  exact tokGo_sign1 x hk _ _ _ hn
theorem st_sign2 {x : Int} {w : List UInt8} (hk : kindN x = 3) (hx : x = 33 ∨ x = 60) (he : (Utf8.encode x ++ Utf8.encode 61).toList = w) (pos : Int) (out : List Tok) (rest : List Int) :
    ∃ t pos', Sg t w ∧ tokGo Tok.zero pos out (x :: 61 :: rest) = tokGo Tok.zero pos' (out ++ [t]) rest := by
  have hb : ¬ (x = 32 ∨ x = 9) := by omega
  refine ⟨⟨3, Utf8.encode x ++ Utf8.encode 61, 0, pos + 1⟩, pos + 1 + 1, ⟨rfl, he⟩, ?_⟩
  rw [tokGo_zero, if_neg hb, if_neg (by omega), hk]
  exact tokGo_sign2 x hk hx _ _ _
theorem st_word {x : Int} {run : List Int} {w : List UInt8} (hk : kindN x = 1) (hr : ∀ r ∈ run, kindN r = 1) (he : (encAll (x :: run)).toList = w) (pos : Int) (out : List Tok) (rest : List Int) (hn : ∀ r, rest.head? = some r → kindN r ≠ 1) :
    ∃ t pos', Wd t w ∧ tokGo Tok.zero pos out (x :: (run ++ rest)) = tokGo Tok.zero pos' (out ++ [t]) rest := by
  have hb : ¬ (x = 32 ∨ x = 9) := fun h => by rw [kind_blank x h] at hk; omega
  refine ⟨⟨1, encAll (x :: run), 0, pos + 1⟩, pos + 1 + run.length, ⟨rfl, he⟩, ?_⟩
  rw [tokGo_zero, if_neg hb, if_neg (by omega), hk]
  exact tokGo_name x hk _ _ run rest hr hn
theorem st_num (u : Nat) (hu : u ≤ 9223372036854775807) (pos : Int) (out : List Tok) (rest : List Int) (hn : Ends rest) :
    ∃ t pos', t.kind = 2 ∧ t.n = (u : Int) ∧ tokGo Tok.zero pos out (Num.digR u ++ rest) = tokGo Tok.zero pos' (out ++ [t]) rest := by
  have hne := Num.digR_ne u
  have hm := Num.digR_mem u
  have hg := Num.numGo_dig u hu
  cases hd : Num.digR u with
  | nil => exact absurd hd hne
  | cons x run =>
    rw [hd] at hm hg
    have hx := hm x (by simp)
    have hk : kindN x = 2 := Num.kindN_digit hx
    refine ⟨⟨2, { data := #[] }, (u : Int), pos + 1⟩, pos + 1 + run.length, rfl, rfl, ?_⟩
    rw [List.cons_append, tokGo_zero, if_neg (by omega), if_neg (by omega), hk, tokGo_num x hk _ _ run rest (fun r hr => Num.kindN_digit (hm r (by simp [hr]))) (fun r hr => (kindN_of r (hn r hr)).2), hg]

/-- What holds of a line. -/
def LT (x : Ex) : Prop := (∃ r l, rb x.line = r :: l ∧ r ≠ 61) ∧ Asc x.line ∧ ∀ (pos : Int) (out : List Tok) (rest : List Int), Ends rest → ∃ ts pos', Says x ts ∧ tokGo Tok.zero pos out (rb x.line ++ rest) = tokGo Tok.zero pos' (out ++ ts) rest

theorem k40 : kindN 40 = 3 := kindN_40
theorem asc_open : Asc kwOpen := by decide
theorem asc_shut : Asc kwShut := by decide
theorem asc_blank : Asc kwBlank := by decide
theorem asc_if : Asc kwIf := by decide
theorem asc_then : Asc kwThen := by decide
theorem asc_else : Asc kwElse := by decide
theorem ends_shut (rest : List Int) : Ends (41 :: rest) := by intro r h; simp at h; exact .inr h.symm
theorem ends_blank (rest : List Int) : Ends (32 :: rest) := by intro r h; simp at h; exact .inl h.symm
theorem kw_words : (∀ r ∈ ([101, 121] : List Int), kindN r = 1) ∧ (∀ r ∈ ([97, 108] : List Int), kindN r = 1) ∧ (∀ r ∈ ([99, 99] : List Int), kindN r = 1) ∧ (∀ r ∈ ([102] : List Int), kindN r = 1) ∧ (∀ r ∈ ([104, 101, 110] : List Int), kindN r = 1) ∧ (∀ r ∈ ([108, 115, 101] : List Int), kindN r = 1) := by decide +kernel
theorem kw_heads : kindN 107 = 1 ∧ kindN 118 = 1 ∧ kindN 97 = 1 ∧ kindN 105 = 1 ∧ kindN 116 = 1 ∧ kindN 101 = 1 := by decide +kernel

theorem lt_num (u : Nat) (hu : u ≤ 9223372036854775807) : LT (.mk 1 (u : Int) []) := by
  have hl : (Ex.mk 1 (u : Int) []).line = decB u := by
    rw [Ex.line_eq]
    show decB ((u : Int)).toNat = _
    rw [Int.toNat_natCast]
  have hr : rb (decB u) = Num.digR u := rfl
  refine ⟨?_, ?_, ?_⟩
  · rw [hl, hr]
    cases hd : Num.digR u with
    | nil => exact absurd hd (Num.digR_ne u)
    | cons x run =>
      have := Num.digR_mem u x (by rw [hd]; simp)
      exact ⟨x, run, rfl, by omega⟩
  · rw [hl]
    exact Num.dec_mem u
  · intro pos out rest he
    rw [hl, hr]
    obtain ⟨t, pos', h1, h2, h3⟩ := st_num u hu pos out rest he
    exact ⟨[t], pos', .num t _ h1 h2, h3⟩
theorem lt_key : LT (.mk 2 0 []) := by
  refine ⟨⟨107, [101, 121], rfl, by decide⟩, by show Asc kwKey; decide, fun pos out rest he => ?_⟩
  obtain ⟨t, pos', h1, h2⟩ := st_word (w := wKey) kw_heads.1 kw_words.1 (by decide +kernel) pos out rest (fun r hr => (kindN_of r (he r hr)).1)
  exact ⟨[t], pos', .key t h1, h2⟩
theorem lt_val : LT (.mk 3 0 []) := by
  refine ⟨⟨118, [97, 108], rfl, by decide⟩, by show Asc kwVal; decide, fun pos out rest he => ?_⟩
  obtain ⟨t, pos', h1, h2⟩ := st_word (w := wVal) kw_heads.2.1 kw_words.2.1 (by decide +kernel) pos out rest (fun r hr => (kindN_of r (he r hr)).1)
  exact ⟨[t], pos', .val t h1, h2⟩
theorem lt_acc : LT (.mk 4 0 []) := by
  refine ⟨⟨97, [99, 99], rfl, by decide⟩, by show Asc kwAcc; decide, fun pos out rest he => ?_⟩
  obtain ⟨t, pos', h1, h2⟩ := st_word (w := wAcc) kw_heads.2.2.1 kw_words.2.2.1 (by decide +kernel) pos out rest (fun r hr => (kindN_of r (he r hr)).1)
  exact ⟨[t], pos', .acc t h1, h2⟩

theorem lt_neg {a : Ex} (h : LT a) : LT (.mk 5 0 [a]) := by
  have hl : (Ex.mk 5 0 [a]).line = ((kwOpen ++ { data := #[45] }) ++ a.line) ++ kwShut := by rw [Ex.line_eq]; rfl
  have hr : rb (Ex.mk 5 0 [a]).line = 40 :: 45 :: (rb a.line ++ [41]) := by rw [hl, rb_append, rb_append, rb_append]; rfl
  obtain ⟨⟨r0, l0, h0, hr0⟩, hA, hG⟩ := h
  refine ⟨⟨40, _, hr, by decide⟩, by rw [hl]; exact ((asc_open.append (by decide)).append hA).append asc_shut, fun pos out rest he => ?_⟩
  rw [hr]
  obtain ⟨o, p1, ho, e1⟩ := st_sign kindN_40 enc_40 pos out (45 :: (rb a.line ++ 41 :: rest)) (by simp)
  obtain ⟨s, p2, hs, e2⟩ := st_sign (x := 45) (w := [45]) (by decide +kernel) (by decide +kernel) p1 (out ++ [o]) (rb a.line ++ 41 :: rest) (by simp)
  obtain ⟨ta, p3, ha, e3⟩ := hG p2 (out ++ [o] ++ [s]) (41 :: rest) (ends_shut rest)
  obtain ⟨c, p4, hc, e4⟩ := st_sign kindN_41 enc_41 p3 (out ++ [o] ++ [s] ++ ta) rest (by simp)
  refine ⟨_, p4, .neg o s c a ta ho hs hc ha, ?_⟩
  have q : 40 :: 45 :: (rb a.line ++ [41]) ++ rest = 40 :: 45 :: (rb a.line ++ 41 :: rest) := by simp
  rw [q, e1, e2, e3, e4]
  simp
theorem lt_not {a : Ex} (h : LT a) : LT (.mk 6 0 [a]) := by
  have hl : (Ex.mk 6 0 [a]).line = ((kwOpen ++ { data := #[33] }) ++ a.line) ++ kwShut := by rw [Ex.line_eq]; rfl
  have hr : rb (Ex.mk 6 0 [a]).line = 40 :: 33 :: (rb a.line ++ [41]) := by rw [hl, rb_append, rb_append, rb_append]; rfl
  obtain ⟨⟨r0, l0, h0, hr0⟩, hA, hG⟩ := h
  refine ⟨⟨40, _, hr, by decide⟩, by rw [hl]; exact ((asc_open.append (by decide)).append hA).append asc_shut, fun pos out rest he => ?_⟩
  rw [hr]
  obtain ⟨o, p1, ho, e1⟩ := st_sign kindN_40 enc_40 pos out (33 :: (rb a.line ++ 41 :: rest)) (by simp)
  obtain ⟨s, p2, hs, e2⟩ := st_sign (x := 33) (w := [33]) (by decide +kernel) (by decide +kernel) p1 (out ++ [o]) (rb a.line ++ 41 :: rest) (by rw [h0]; simp; exact hr0)
  obtain ⟨ta, p3, ha, e3⟩ := hG p2 (out ++ [o] ++ [s]) (41 :: rest) (ends_shut rest)
  obtain ⟨c, p4, hc, e4⟩ := st_sign kindN_41 enc_41 p3 (out ++ [o] ++ [s] ++ ta) rest (by simp)
  refine ⟨_, p4, .not o s c a ta ho hs hc ha, ?_⟩
  have q : 40 :: 33 :: (rb a.line ++ [41]) ++ rest = 40 :: 33 :: (rb a.line ++ 41 :: rest) := by simp
  rw [q, e1, e2, e3, e4]
  simp

/-- A sign between blanks. -/
theorem st_op (op : Int) (h : 7 ≤ op ∧ op ≤ 17) : Asc (sgnB op) ∧ ∃ (lv : Fin 5) (p : List UInt8 × Int), p ∈ lvSigns lv ∧ p.2 = op ∧ ∀ (pos : Int) (out : List Tok) (rest : List Int), ∃ t pos', Sg t p.1 ∧ tokGo Tok.zero pos out (rb (sgnB op) ++ 32 :: rest) = tokGo Tok.zero pos' (out ++ [t]) (32 :: rest) := by
  obtain rfl | rfl | rfl | rfl | rfl | rfl | rfl | rfl | rfl | rfl | rfl : op = 7 ∨ op = 8 ∨ op = 9 ∨ op = 10 ∨ op = 11 ∨ op = 12 ∨ op = 13 ∨ op = 14 ∨ op = 15 ∨ op = 16 ∨ op = 17 := by omega
  · exact ⟨by decide, 3, ([43], 7), by decide, rfl, fun pos out rest => st_sign (x := 43) (by decide +kernel) (by decide +kernel) pos out (32 :: rest) (by simp)⟩
  · exact ⟨by decide, 3, ([45], 8), by decide, rfl, fun pos out rest => st_sign (x := 45) (by decide +kernel) (by decide +kernel) pos out (32 :: rest) (by simp)⟩
  · exact ⟨by decide, 4, ([42], 9), by decide, rfl, fun pos out rest => st_sign (x := 42) (by decide +kernel) (by decide +kernel) pos out (32 :: rest) (by simp)⟩
  · exact ⟨by decide, 4, ([47], 10), by decide, rfl, fun pos out rest => st_sign (x := 47) (by decide +kernel) (by decide +kernel) pos out (32 :: rest) (by simp)⟩
  · exact ⟨by decide, 4, ([37], 11), by decide, rfl, fun pos out rest => st_sign (x := 37) (by decide +kernel) (by decide +kernel) pos out (32 :: rest) (by simp)⟩
  · exact ⟨by decide, 2, ([60], 12), by decide, rfl, fun pos out rest => st_sign (x := 60) (by decide +kernel) (by decide +kernel) pos out (32 :: rest) (by simp)⟩
  · exact ⟨by decide, 2, ([60, 61], 13), by decide, rfl, fun pos out rest => st_sign2 (x := 60) (by decide +kernel) (.inr rfl) (by decide +kernel) pos out (32 :: rest)⟩
  · exact ⟨by decide, 2, ([61], 14), by decide, rfl, fun pos out rest => st_sign (x := 61) (by decide +kernel) (by decide +kernel) pos out (32 :: rest) (by simp)⟩
  · exact ⟨by decide, 2, ([33, 61], 15), by decide, rfl, fun pos out rest => st_sign2 (x := 33) (by decide +kernel) (.inl rfl) (by decide +kernel) pos out (32 :: rest)⟩
  · exact ⟨by decide, 1, ([38], 16), by decide, rfl, fun pos out rest => st_sign (x := 38) (by decide +kernel) (by decide +kernel) pos out (32 :: rest) (by simp)⟩
  · exact ⟨by decide, 0, ([124], 17), by decide, rfl, fun pos out rest => st_sign (x := 124) (by decide +kernel) (by decide +kernel) pos out (32 :: rest) (by simp)⟩

theorem lineOp_two (op n : Int) (a c : ByteArray) (h : 7 ≤ op ∧ op ≤ 17) : lineOp op n [a, c] = (((kwOpen ++ a) ++ ((kwBlank ++ sgnB op) ++ kwBlank)) ++ c) ++ kwShut := by
  unfold lineOp
  rw [if_neg (by omega), if_neg (by omega), if_neg (by omega), if_neg (by omega), if_neg (by omega), if_neg (by omega)]
  rfl
theorem lt_two {a c : Ex} (op : Int) (hop : 7 ≤ op ∧ op ≤ 17) (ha : LT a) (hc : LT c) : LT (.mk op 0 [a, c]) := by
  obtain ⟨hs0, lv, p, hp, rfl, hst⟩ := st_op op hop
  have hl : (Ex.mk p.2 0 [a, c]).line = (((kwOpen ++ a.line) ++ ((kwBlank ++ sgnB p.2) ++ kwBlank)) ++ c.line) ++ kwShut := by
    rw [Ex.line_eq]
    exact lineOp_two p.2 0 a.line c.line hop
  have hr : rb (Ex.mk p.2 0 [a, c]).line = 40 :: (rb a.line ++ (32 :: (rb (sgnB p.2) ++ 32 :: (rb c.line ++ [41])))) := by
    rw [hl]
    simp only [rb_append, List.append_assoc]
    rfl
  obtain ⟨_, hA, hG⟩ := ha
  obtain ⟨_, hC, hH⟩ := hc
  refine ⟨⟨40, _, hr, by decide⟩, by rw [hl]; exact (((asc_open.append hA).append ((asc_blank.append hs0).append asc_blank)).append hC).append asc_shut, fun pos out rest he => ?_⟩
  rw [hr]
  obtain ⟨o, p1, ho, e1⟩ := st_sign kindN_40 enc_40 pos out (rb a.line ++ 32 :: (rb (sgnB p.2) ++ 32 :: (rb c.line ++ 41 :: rest))) (by simp)
  obtain ⟨ta, p2, ha, e2⟩ := hG p1 (out ++ [o]) (32 :: (rb (sgnB p.2) ++ 32 :: (rb c.line ++ 41 :: rest))) (ends_blank _)
  obtain ⟨s, p3, hs, e3⟩ := hst (p2 + 1) (out ++ [o] ++ ta) (rb c.line ++ 41 :: rest)
  obtain ⟨tc, p4, hc, e4⟩ := hH (p3 + 1) (out ++ [o] ++ ta ++ [s]) (41 :: rest) (ends_shut rest)
  obtain ⟨c', p5, hc', e5⟩ := st_sign kindN_41 enc_41 p4 (out ++ [o] ++ ta ++ [s] ++ tc) rest (by simp)
  refine ⟨_, p5, .two o s c' a c ta tc lv p ho hp hs hc' ha hc, ?_⟩
  have q : 40 :: (rb a.line ++ (32 :: (rb (sgnB p.2) ++ 32 :: (rb c.line ++ [41])))) ++ rest = 40 :: (rb a.line ++ 32 :: (rb (sgnB p.2) ++ 32 :: (rb c.line ++ 41 :: rest))) := by simp
  rw [q, e1, e2, st_blank, e3, st_blank, e4, e5]
  simp

theorem lt_if {a b e : Ex} (ha : LT a) (hb : LT b) (he : LT e) : LT (.mk 18 0 [a, b, e]) := by
  have hl : (Ex.mk 18 0 [a, b, e]).line = ((((((kwOpen ++ kwIf) ++ a.line) ++ kwThen) ++ b.line) ++ kwElse) ++ e.line) ++ kwShut := by rw [Ex.line_eq]; rfl
  have hr : rb (Ex.mk 18 0 [a, b, e]).line = 40 :: 105 :: ([102] ++ 32 :: (rb a.line ++ 32 :: 116 :: ([104, 101, 110] ++ 32 :: (rb b.line ++ 32 :: 101 :: ([108, 115, 101] ++ 32 :: (rb e.line ++ [41])))))) := by
    rw [hl]
    simp only [rb_append, List.append_assoc]
    rfl
  obtain ⟨_, hA, hG⟩ := ha
  obtain ⟨_, hB, hH⟩ := hb
  obtain ⟨_, hE, hK⟩ := he
  refine ⟨⟨40, _, hr, by decide⟩, by rw [hl]; exact ((((((asc_open.append asc_if).append hA).append asc_then).append hB).append asc_else).append hE).append asc_shut, fun pos out rest he => ?_⟩
  rw [hr]
  have n32 : ∀ (l : List Int) r, (32 :: l : List Int).head? = some r → kindN r ≠ 1 := fun l r h => (kindN_of r (ends_blank l r h)).1
  obtain ⟨o, p1, ho, e1⟩ := st_sign kindN_40 enc_40 pos out (105 :: ([102] ++ 32 :: (rb a.line ++ 32 :: 116 :: ([104, 101, 110] ++ 32 :: (rb b.line ++ 32 :: 101 :: ([108, 115, 101] ++ 32 :: (rb e.line ++ 41 :: rest))))))) (by simp)
  obtain ⟨i, p2, hi, e2⟩ := st_word (x := 105) (w := wIf) kw_heads.2.2.2.1 kw_words.2.2.2.1 (by decide +kernel) p1 (out ++ [o]) (32 :: (rb a.line ++ 32 :: 116 :: ([104, 101, 110] ++ 32 :: (rb b.line ++ 32 :: 101 :: ([108, 115, 101] ++ 32 :: (rb e.line ++ 41 :: rest)))))) (n32 _)
  obtain ⟨ta, p3, ha, e3⟩ := hG (p2 + 1) (out ++ [o] ++ [i]) (32 :: 116 :: ([104, 101, 110] ++ 32 :: (rb b.line ++ 32 :: 101 :: ([108, 115, 101] ++ 32 :: (rb e.line ++ 41 :: rest))))) (ends_blank _)
  obtain ⟨th, p4, ht, e4⟩ := st_word (x := 116) (w := wThen) kw_heads.2.2.2.2.1 kw_words.2.2.2.2.1 (by decide +kernel) (p3 + 1) (out ++ [o] ++ [i] ++ ta) (32 :: (rb b.line ++ 32 :: 101 :: ([108, 115, 101] ++ 32 :: (rb e.line ++ 41 :: rest)))) (n32 _)
  obtain ⟨tb, p5, hb, e5⟩ := hH (p4 + 1) (out ++ [o] ++ [i] ++ ta ++ [th]) (32 :: 101 :: ([108, 115, 101] ++ 32 :: (rb e.line ++ 41 :: rest))) (ends_blank _)
  obtain ⟨el, p6, hel, e6⟩ := st_word (x := 101) (w := wElse) kw_heads.2.2.2.2.2 kw_words.2.2.2.2.2 (by decide +kernel) (p5 + 1) (out ++ [o] ++ [i] ++ ta ++ [th] ++ tb) (32 :: (rb e.line ++ 41 :: rest)) (n32 _)
  obtain ⟨te, p7, hte, e7⟩ := hK (p6 + 1) (out ++ [o] ++ [i] ++ ta ++ [th] ++ tb ++ [el]) (41 :: rest) (ends_shut rest)
  obtain ⟨c, p8, hc, e8⟩ := st_sign kindN_41 enc_41 p7 (out ++ [o] ++ [i] ++ ta ++ [th] ++ tb ++ [el] ++ te) rest (by simp)
  refine ⟨_, p8, .ite o i th el c a b e ta tb te ho hi ht hel hc ha hb hte, ?_⟩
  have q : 40 :: 105 :: ([102] ++ 32 :: (rb a.line ++ 32 :: 116 :: ([104, 101, 110] ++ 32 :: (rb b.line ++ 32 :: 101 :: ([108, 115, 101] ++ 32 :: (rb e.line ++ [41])))))) ++ rest = 40 :: 105 :: ([102] ++ 32 :: (rb a.line ++ 32 :: 116 :: ([104, 101, 110] ++ 32 :: (rb b.line ++ 32 :: 101 :: ([108, 115, 101] ++ 32 :: (rb e.line ++ 41 :: rest)))))) := by simp
  rw [q, e1, e2, st_blank, e3, st_blank, e4, st_blank, e5, st_blank, e6, st_blank, e7, e8]
  simp

theorem lt_all : ∀ (k : Nat) (x : Ex), x.ok → mayB k x = true → LT x
  | 0, x, _, h => by simp [mayB] at h
  | k + 1, x, hok, h => by
    simp only [mayB, Bool.and_eq_true] at h
    obtain ⟨hs, hl⟩ := h
    have hs' := of_decide_eq_true hs
    obtain ⟨o, n, l⟩ := x
    simp only [Ex.ok] at hok
    obtain ⟨ho0, ho1, hn0, hn1, hoa⟩ := hok
    simp only [Ex.op, Ex.n, Ex.args] at hs' hl
    have hmm : ∀ a ∈ l, LT a := fun a ha => lt_all k a (Exs.ok_mem _ hoa a ha) (List.all_eq_true.1 hl a ha)
    obtain ⟨hmn, hn2, hn3⟩ := hs'
    unfold manyN at hmn
    by_cases c0 : o = 0 ∨ 18 < o
    · rw [if_pos c0] at hmn; omega
    rw [if_neg c0] at hmn
    by_cases c4 : o ≤ 4
    · rw [if_pos c4] at hmn
      have hl0 : l = [] := List.eq_nil_of_length_eq_zero (by omega)
      subst hl0
      obtain rfl | rfl | rfl | rfl : o = 1 ∨ o = 2 ∨ o = 3 ∨ o = 4 := by omega
      · obtain ⟨u, rfl⟩ : ∃ u : Nat, n = (u : Int) := ⟨n.toNat, by omega⟩
        exact lt_num u (by omega)
      all_goals
        have hn : n = 0 := by omega
        subst hn
      · exact lt_key
      · exact lt_val
      · exact lt_acc
    rw [if_neg c4] at hmn
    have hn : n = 0 := by omega
    subst hn
    by_cases c6 : o ≤ 6
    · rw [if_pos c6] at hmn
      match l, hmn, hmm with
      | [a], _, hmm =>
        have m1 := hmm a (by simp)
        obtain rfl | rfl : o = 5 ∨ o = 6 := by omega
        · exact lt_neg m1
        · exact lt_not m1
    rw [if_neg c6] at hmn
    by_cases c18 : o = 18
    · rw [if_pos c18] at hmn
      match l, hmn, hmm with
      | [a, b, e], _, hmm =>
        subst c18
        exact lt_if (hmm a (by simp)) (hmm b (by simp)) (hmm e (by simp))
    · rw [if_neg c18] at hmn
      match l, hmn, hmm with
      | [a, c], _, hmm => exact lt_two o (by omega) (hmm a (by simp)) (hmm c (by simp))

/-- A line is read as its expression. -/
theorem parse_line (x : Ex) (hok : x.ok) (hm : x.mayT = true) (hs : x.line.size ≤ 400) : parse x.line = (x, 0, 0) := by
  obtain ⟨_, hA, hG⟩ := lt_all 16 x hok hm
  obtain ⟨ts, pos', hts, he⟩ := hG (-1) [] [] (fun r h => by simp at h)
  rw [List.append_nil, List.nil_append] at he
  have hr : runes x.line = rb x.line := runes_ascii _ hA
  have ht : toks x.line = (ts, 0, 0) := by
    unfold toks
    rw [if_neg (by omega), hr, he]
    rfl
  unfold parse
  rw [ht]
  rw [if_neg (by simp)]
  dsimp only
  rw [says_all _ hts]
  unfold parseEnd
  simp only [if_true]
  have hd : deepN 16 x ≤ 16 := by
    have := mayB_shaped 16 x
    rw [show mayB 16 x = true from hm] at this
    simp only [Bool.true_eq, Bool.and_eq_true, decide_eq_true_eq] at this
    exact this.1
  rw [if_neg (by omega)]

end Go.Proofs.YtjbchkgkapccnaaGreatDoor
