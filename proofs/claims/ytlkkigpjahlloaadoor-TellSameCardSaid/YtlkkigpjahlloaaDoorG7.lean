/-
  The walk of the reference's row.
-/
import Derived.Test.YtlkkigpjahlloaaDoorG4
import Derived.Test.YtlkkigpjahlloaaDoorP9
namespace Go.Proofs.YtlkkigpjahlloaaDoor
open Go.RowKit
set_option linter.unusedVariables false
attribute [local go_sem ↓] Go.wp_at_zero Go.wp_at_succ

/-- No name is a sign. -/
def NmOk (L : List Tok) : Prop := ∀ t ∈ L, t.kind = 1 → ∀ lv, ∀ p ∈ lvSigns lv, t.text.toList ≠ p.1
theorem opL_zero {sg : List (List UInt8 × Int)} (hz : ∀ p ∈ sg, p.2 ≠ 0) {st : PSt} {t : Tok} {l : List Tok} (hst : st = ⟨t :: l, none⟩) (hk : t.kind = 3) : signOf st sg = if opL sg t.text.toList = 0 then none else some (opL sg t.text.toList) := by
  subst hst
  induction sg with
  | nil => rfl
  | cons p r ih =>
    obtain ⟨x, o⟩ := p
    simp only [signOf]
    have hB : (⟨t :: l, none⟩ : PSt).isB x = decide (t.text.toList = x) := by
      unfold PSt.isB
      simp [hk]
    rw [hB]
    by_cases hx : x = t.text.toList
    · have ho : o ≠ 0 := hz (x, o) (by simp)
      have hop : opL ((x, o) :: r) t.text.toList = o := if_pos hx
      rw [hop, if_pos (by simp [hx]), if_neg ho]
    · have hop : opL ((x, o) :: r) t.text.toList = opL r t.text.toList := if_neg hx
      rw [hop, if_neg (by simp; exact fun h => hx h.symm)]
      exact ih fun p hp => hz p (by simp [hp])
theorem signOf_name {sg : List (List UInt8 × Int)} {st : PSt} {t : Tok} {l : List Tok} (hst : st = ⟨t :: l, none⟩) (h : t.kind = 2 ∨ (t.kind = 1 ∧ ∀ p ∈ sg, t.text.toList ≠ p.1)) : signOf st sg = none := by
  subst hst
  induction sg with
  | nil => rfl
  | cons p r ih =>
    obtain ⟨x, o⟩ := p
    simp only [signOf]
    have hB : (⟨t :: l, none⟩ : PSt).isB x = false := by
      unfold PSt.isB
      rcases h with h | ⟨h1, h2⟩
      · simp [h]
      · simp [h1, h2 (x, o) (by simp)]
    rw [hB]
    refine ih ?_
    rcases h with h | ⟨h1, h2⟩
    · exact .inl h
    · exact .inr ⟨h1, fun p hp => h2 p (by simp [hp])⟩
theorem signOf_nil {sg : List (List UInt8 × Int)} (b : Option Int) : signOf ⟨[], b⟩ sg = none := by
  induction sg with
  | nil => rfl
  | cons p r ih => obtain ⟨x, o⟩ := p; simp only [signOf, PSt.isB]; simpa using ih
theorem signOf_bad {sg : List (List UInt8 × Int)} {st : PSt} (h : st.bad.isSome = true) : signOf st sg = none := by
  induction sg with
  | nil => rfl
  | cons p r ih => obtain ⟨x, o⟩ := p; simp only [signOf]; rw [PSt.isB_bad h]; simpa using ih
theorem lvSigns_nz (lv : Nat) : ∀ p ∈ lvSigns lv, p.2 ≠ 0 := by
  match lv with
  | 0 => decide
  | 1 => decide
  | 2 => decide
  | 3 => decide
  | n + 4 => simp only [lvSigns]; decide
theorem rowL_none (one : PSt → Ex × PSt) (sg : List (List UInt8 × Int)) (c : Nat) (x : Ex) (st : PSt) (h : signOf st sg = none) : rowL one sg c x st = (x, st) := by
  cases c with
  | zero => rfl
  | succ c =>
    simp only [rowL]
    split
    · rfl
    · rw [h]

/-- The place that the reader is at. -/
def curI (w : World) (bt : Nat) : Nat := match w.cell? ⟨bt, 1, none⟩ with | some (.int _ n) => n.toNat | _ => 0
theorem curI_of {w : World} {bt I : Nat} {v e a : Value} {t : TypeId} (h : Blk w bt t #[v, .int .i64 (I : Int), e, a]) : curI w bt = I := by
  unfold curI
  rw [h.cell 1]
  rfl
theorem TxAt.cur {w : World} {bt : Nat} {E : Int} {L : List Tok} {st : PSt} (h : TxAt w bt E L st) : curI w bt + st.l.length = L.length := by
  obtain ⟨v, I, a, hb, _, hI, hl, _⟩ := h.ex
  rw [curI_of hb, hl, List.length_drop]
  omega

/-- What stands at each round's head. -/
structure RwR (w wr : World) (bt bx : Nat) (E : Int) (L : List Tok) (lv : Nat) (f : PSt → Ex × PSt) (target : Ex × PSt) : Prop where
  ex : ∃ (c : Nat) (x : Ex) (st : PSt) (a : Option Addr) (n k : Nat), (lv = 2 → c = 1) ∧ (lv ≠ 2 → st.bad = none → st.l.length < c) ∧ target = rowL f (lvSigns lv) c x st ∧ TR w wr bt E L st ∧ KX w wr bx x a n k

/-- The ways of a round. -/
theorem row_ways {L : List Tok} (hL : TkOk L) (hN : NmOk L) (I : Nat) (bad : Option Int) (lv : Nat) :
    (bad.isSome = true ∧ signOf ⟨L.drop I, bad⟩ (lvSigns lv) = none) ∨ (bad = none ∧ ¬ I < L.length ∧ signOf ⟨L.drop I, bad⟩ (lvSigns lv) = none) ∨
    (∃ h : I < L.length, bad = none ∧ ((L[I]'h).kind == 3) = false ∧ signOf ⟨L.drop I, bad⟩ (lvSigns lv) = none) ∨
    (∃ h : I < L.length, bad = none ∧ (L[I]'h).kind = 3 ∧ opL (lvSigns lv) (L[I]'h).text.toList = 0 ∧ signOf ⟨L.drop I, bad⟩ (lvSigns lv) = none) ∨
    (∃ h : I < L.length, bad = none ∧ (L[I]'h).kind = 3 ∧ opL (lvSigns lv) (L[I]'h).text.toList ≠ 0 ∧ signOf ⟨L.drop I, bad⟩ (lvSigns lv) = some (opL (lvSigns lv) (L[I]'h).text.toList)) := by
  cases bad with
  | some b => exact .inl ⟨rfl, signOf_bad rfl⟩
  | none =>
    by_cases hlt : I < L.length
    · have hd : L.drop I = L[I] :: L.drop (I + 1) := List.drop_eq_getElem_cons hlt
      have hm := List.getElem_mem hlt
      by_cases h3 : (L[I]'hlt).kind = 3
      · have ho := opL_zero (lvSigns_nz lv) (st := ⟨L.drop I, none⟩) (t := L[I]) (l := L.drop (I + 1)) (by rw [hd]) h3
        by_cases h0 : opL (lvSigns lv) (L[I]'hlt).text.toList = 0
        · rw [if_pos h0] at ho
          exact .inr (.inr (.inr (.inl ⟨hlt, rfl, h3, h0, ho⟩)))
        · rw [if_neg h0] at ho
          exact .inr (.inr (.inr (.inr ⟨hlt, rfl, h3, h0, ho⟩)))
      · refine .inr (.inr (.inl ⟨hlt, rfl, by simpa using h3, ?_⟩))
        refine signOf_name (t := L[I]) (l := L.drop (I + 1)) (by rw [hd]) ?_
        rcases (hL.2 _ hm).1 with h | h | h
        · exact .inr ⟨h, hN _ hm h lv⟩
        · exact .inl h
        · exact absurd h h3
    · refine .inr (.inl ⟨rfl, hlt, ?_⟩)
      rw [List.drop_of_length_le (by omega)]
      exact signOf_nil _

theorem opL_byte (lv : Nat) (s : List UInt8) : 0 ≤ opL (lvSigns lv) s ∧ opL (lvSigns lv) s ≤ 255 := by
  have key : ∀ sg : List (List UInt8 × Int), (∀ p ∈ sg, 0 ≤ p.2 ∧ p.2 ≤ 255) → 0 ≤ opL sg s ∧ opL sg s ≤ 255 := by
    intro sg
    induction sg with
    | nil => intro _; exact ⟨Int.le_refl 0, by simp [opL]⟩
    | cons p r ih =>
      obtain ⟨x, o⟩ := p
      intro h
      simp only [opL]
      split
      · exact h (x, o) (by simp)
      · exact ih fun q hq => h q (by simp [hq])
  refine key _ ?_
  match lv with
  | 0 => decide
  | 1 => decide
  | 2 => decide
  | 3 => decide
  | n + 4 => simp only [lvSigns]; decide

/-- The round's end: a new row of two, and x is of it. -/
theorem KX.put {w W : World} {bt bx : Nat} {E : Int} {L : List Tok} {st : PSt} {x y : Ex} {a a2 : Option Addr} {n n2 k k2 : Nat} {o : Int} (H : TR w W bt E L st) (hx : KX w W bx x a n k)
    (hy : ArgsIn W (fun b => w.heap.size < b ∧ b ≠ bx ∧ b < W.heap.size) y.args (.slice a2 n2 k2)) :
    TR w ((((W.setCell ⟨bx, 0, none⟩ (.int .u8 o)).setCell ⟨bx, 1, none⟩ (.int .i64 0)).setCell ⟨bx, 2, none⟩ (.slice (some ⟨W.heap.size, 0, none⟩) 2 2)).alloc (.cells #[.int .u8 x.op, .int .i64 x.n, .slice a n k, .int .u8 y.op, .int .i64 y.n, .slice a2 n2 k2] 24)) bt E L st ∧
    KX w ((((W.setCell ⟨bx, 0, none⟩ (.int .u8 o)).setCell ⟨bx, 1, none⟩ (.int .i64 0)).setCell ⟨bx, 2, none⟩ (.slice (some ⟨W.heap.size, 0, none⟩) 2 2)).alloc (.cells #[.int .u8 x.op, .int .i64 x.n, .slice a n k, .int .u8 y.op, .int .i64 y.n, .slice a2 n2 k2] 24)) bx (.mk o 0 [x, y]) (some ⟨W.heap.size, 0, none⟩) 2 2 := by
  have hlow := hx.low
  have hlt := hx.blk.lt
  have hbt := H.lt
  have hF : Fr (fun k => k = bx) W ((((W.setCell ⟨bx, 0, none⟩ (.int .u8 o)).setCell ⟨bx, 1, none⟩ (.int .i64 0)).setCell ⟨bx, 2, none⟩ (.slice (some ⟨W.heap.size, 0, none⟩) 2 2)).alloc (.cells #[.int .u8 x.op, .int .i64 x.n, .slice a n k, .int .u8 y.op, .int .i64 y.n, .slice a2 n2 k2] 24)) :=
    ((((Fr.refl (fun k => k = bx) W).setCell (p := ⟨bx, 0, none⟩) (.inl rfl) _).setCell (p := ⟨bx, 1, none⟩) (.inl rfl) _).setCell (p := ⟨bx, 2, none⟩) (.inl rfl) _).alloc _
  have hN := Blk.new_at (((W.setCell ⟨bx, 0, none⟩ (.int .u8 o)).setCell ⟨bx, 1, none⟩ (.int .i64 0)).setCell ⟨bx, 2, none⟩ (.slice (some ⟨W.heap.size, 0, none⟩) 2 2)) #[.int .u8 x.op, .int .i64 x.n, .slice a n k, .int .u8 y.op, .int .i64 y.n, .slice a2 n2 k2] 24 (k := W.heap.size) (by simp [World.setCell])
  have hC := ((((hx.blk.set 0 (.int .u8 o)).set 1 (.int .i64 0)).set 2 (.slice (some ⟨W.heap.size, 0, none⟩) 2 2)).alloc (.cells #[.int .u8 x.op, .int .i64 x.n, .slice a n k, .int .u8 y.op, .int .i64 y.n, .slice a2 n2 k2] 24))
  have hfr := (((H.fr.setCell (p := ⟨bx, 0, none⟩) (.inr (by show _ ≤ bx; omega)) (.int .u8 o)).setCell (p := ⟨bx, 1, none⟩) (.inr (by show _ ≤ bx; omega)) (.int .i64 0)).setCell (p := ⟨bx, 2, none⟩) (.inr (by show _ ≤ bx; omega)) (.slice (some ⟨W.heap.size, 0, none⟩) 2 2)).alloc (.cells #[.int .u8 x.op, .int .i64 x.n, .slice a n k, .int .u8 y.op, .int .i64 y.n, .slice a2 n2 k2] 24)
  have hsz : W.heap.size + 1 = ((((W.setCell ⟨bx, 0, none⟩ (.int .u8 o)).setCell ⟨bx, 1, none⟩ (.int .i64 0)).setCell ⟨bx, 2, none⟩ (.slice (some ⟨W.heap.size, 0, none⟩) 2 2)).alloc (.cells #[.int .u8 x.op, .int .i64 x.n, .slice a n k, .int .u8 y.op, .int .i64 y.n, .slice a2 n2 k2] 24)).heap.size := by simp [World.setCell]
  generalize World.alloc _ _ = W3 at *
  refine ⟨⟨hfr, H.res.fr hF (by omega), H.tx.fr hF (fun k hk => by omega), H.lt⟩, ⟨hC, hlow, ?_⟩⟩
  exact ArgsIn.two hN ⟨by omega, by omega, by omega⟩ (hx.args.fr hF (fun b hb => ⟨hb.2.2, hb.2.1⟩) (fun b hb => ⟨hb.1, hb.2.1, by omega⟩)) (hy.fr hF (fun b hb => ⟨hb.2.2, hb.2.1⟩) (fun b hb => ⟨hb.1, hb.2.1, by omega⟩))

set_option maxRecDepth 100000 in
set_option maxHeartbeats 2000000 in
theorem t_row5 (bt : Nat) (E : Int) (L : List Tok) (st : PSt) (w : World) (h : TxAt w bt E L st) (h5 : Hid (TrC 48 ptr bt E L (prF E 5) st.l.length)) :
    Calls Tryd.prog 31 #[.pointer (some ⟨bt, 0, none⟩), .int .i64 5] w (PrPost w (fun w st => TxAt w bt E L st) bt (prF E 5 st)) := by
  have H := Lib.hid (TR.start h)
  clear h
  have hz := H.out.size
  go_enter Tryd.func31, Tryd.ntmps31
  go_wp2_with fail
  refine (h5.out st _ (Nat.le_refl _) H.out.tx).mono ?_
  rintro e w3 ⟨_, rfl, ha, hr, hf3⟩
  obtain ⟨a9, n9, c9, rfl⟩ := ha.slice
  replace H := Lib.hid (H.out.call hf3 hr)
  clear hr hf3
  have z0 := H.out.res.cell 0
  have z1 := H.out.res.cell 1
  have z2 := H.out.res.cell 2
  have q0 := H.out.res.free 0
  have q1 := H.out.res.free 1
  have q2 := H.out.res.free 2
  have hsz := H.out.size
  go_wp2_with fail
  obtain ⟨p1, p2⟩ := tPost_pass H.out (ha.mono fun b hb => ⟨by omega, hb.2⟩)
  refine bodyPost_ret (v := .agg #[_, _, _]) (results_cell_row rfl _ _ w.heap.size 24 _ (0, 0) _ rfl p2 Tryd.underlying24 rfl ?_) rfl p1
  as_aux_lemma => kernel_rfl

set_option maxRecDepth 100000 in
set_option maxHeartbeats 4000000 in
theorem t_row (lv : Nat) (hlv : lv < 5) (bt : Nat) (E : Int) (L : List Tok) (hL : TkOk L) (hN : NmOk L) (st : PSt) (w : World) (h : TxAt w bt E L st) (f : PSt → Ex × PSt) (hf : f = prF E (lv + 1))
    (hlt1 : Hid ((f st).2.bad = none → (f st).2.l.length < 400)) (hlen : Hid (∀ st, (f st).2.l.length ≤ st.l.length))
    (h1 : Hid (TrC 31 (ptrL ((lv : Int) + 1)) bt E L f st.l.length)) :
    Calls Tryd.prog 31 #[.pointer (some ⟨bt, 0, none⟩), .int .i64 (lv : Int)] w (PrPost w (fun w st => TxAt w bt E L st) bt (rowL f (lvSigns lv) (lvMost lv) (f st).1 (f st).2)) := by
  have H := Lib.hid (TR.start h)
  clear h hf
  obtain ⟨target, htg⟩ : ∃ p, rowL f (lvSigns lv) (lvMost lv) (f st).1 (f st).2 = p := ⟨_, rfl⟩
  rw [htg]
  have HTG := Lib.hid htg
  clear htg
  have hl5 : ((lv : Int) == 5) = false := by rw [beq_eq_false_iff_ne]; omega
  have hn4 := hL.1
  have hz := H.out.size
  have hlen0 := hlen.out st
  go_enter Tryd.func31, Tryd.ntmps31
  go_wp2_with fail
  refine (h1.out st _ (Nat.le_refl _) H.out.tx).mono ?_
  generalize f st = p0 at *
  obtain ⟨x, st0⟩ := p0
  rintro e w3 ⟨_, rfl, ha, hr, hf3⟩
  dsimp only at ha hr hlen0 ⊢
  obtain ⟨a9, n9, c9, rfl⟩ := ha.slice
  replace H := Lib.hid (H.out.call hf3 hr)
  have hfs := hf3.size
  have hal : Below w3.heap.size w3 (w3.alloc (.cells #[.int .u8 x.op, .int .i64 x.n, .slice a9 n9 c9] 24)) := (Below.refl _ _).alloc (Nat.le_refl _) _
  have HX := Lib.hid (KX.mk_ (w := w) hz hfs ha)
  go_wp2_with fail
  replace H := Lib.hid (H.out.same hal)
  clear ha hr hf3 hal hfs
  generalize hxb : w3.heap.size = bx at *
  generalize w3.alloc _ = W0 at *
  clear hxb hz
  have HR : Hid (RwR w W0 bt bx E L lv f target) := by
    refine ⟨lvMost lv, x, st0, a9, n9, c9, fun h => by unfold lvMost; rw [if_pos h], fun h hb => ?_, HTG.out.symm, H.out, HX.out⟩
    unfold lvMost
    rw [if_neg h]
    exact hlt1.out hb
  have hcu0 : L.length - curI W0 bt ≤ st.l.length := by have := H.out.tx.cur; omega
  clear H HX HTG hlt1 hlen0
  go_loopw [6] (fun _ wr => RwR w wr bt bx E L lv f target ∧ L.length - curI wr bt ≤ st.l.length) (fun _ wr => 400 - curI wr bt)
  case atStart => exact ⟨HR.out, hcu0⟩
  case round =>
    obtain ⟨hrw, hcu⟩ := hrel
    obtain ⟨c, x, st1, a, n, k, hc2, hcn, htg, hr, hx⟩ := hrw.ex
    have H := Lib.hid hr
    have HX := Lib.hid hx
    have HC := Lib.hid (And.intro hc2 (And.intro hcn htg))
    have HCU := Lib.hid hcu
    have HMR := Lib.hid hr.tx.cur
    obtain ⟨v, I, b, hb, hs, hI, hl, hd⟩ := hr.tx.ex
    have b0 := hb.cell 0
    have b1 := hb.cell 1
    have b3 := hb.cell 3
    have h0I : (0 : Int) ≤ (I : Int) := by omega
    have hw := row_ways hL hN I st1.bad lv
    have hst1 : (⟨L.drop I, st1.bad⟩ : PSt) = st1 := by rw [← hl]
    rw [hst1] at hw
    clear hst1 hrw hr hx hc2 hcn htg hcu HR
    rcases hw with ⟨hbd, hsg⟩ | ⟨hbd, hlt, hsg⟩ | ⟨hlt, hbd, hk, hsg⟩ | ⟨hlt, hbd, hk, hop, hsg⟩ | ⟨hlt, hbd, hk, hop, hsg⟩
    · obtain ⟨b', hb0⟩ := Option.isSome_iff_exists.1 hbd
      have hb1 : 0 ≤ b := by rcases hd with ⟨h, _⟩ | ⟨b'', _, rfl, h⟩; rw [hb0] at h; cases h; exact h
      have hg : decide (b < 0) = false := by rw [decide_eq_false_iff_not]; omega
      have HTE := Lib.hid (HC.out.2.2.trans (rowL_none f _ c x st1 hsg))
      obtain rfl := HTE.out
      clear hb hs hl hd hbd hb0 hsg HC HTE
      go_wp2
      go_quiet (fail)
      have hq0 : Below wr.heap.size wr (wr.drewN nq) := below_drewN (Below.refl _ _) _
      replace HX := Lib.hid (HX.out.step H.out.lt (Fr.of_new hq0))
      replace H := Lib.hid (H.out.same hq0)
      generalize wr.drewN nq = W1 at *
      clear hq0 b0 b1 b3
      have x0 := HX.out.blk.cell 0
      have x1 := HX.out.blk.cell 1
      have x2 := HX.out.blk.cell 2
      have z0 := H.out.res.cell 0
      have z1 := H.out.res.cell 1
      have z2 := H.out.res.cell 2
      have q0 := H.out.res.free 0
      have q1 := H.out.res.free 1
      have q2 := H.out.res.free 2
      have hsz := H.out.size
      go_wp2_with fail
      obtain ⟨p1, p2⟩ := tPost_pass H.out (HX.out.args.mono fun b hb => ⟨hb.1, hb.2.2⟩)
      refine bodyPost_ret (v := .agg #[_, _, _]) (results_cell_row rfl _ _ w.heap.size 24 _ (0, 0) _ rfl p2 Tryd.underlying24 rfl ?_) rfl p1
      as_aux_lemma => kernel_rfl
    · have hb1 : b = -1 := by rcases hd with ⟨_, h⟩ | ⟨b'', h, _⟩; exact h; rw [hbd] at h; cases h
      subst hb1
      have hneg : decide ((-1 : Int) < 0) = true := by decide
      obtain ⟨_, a', cap, rfl, _, _, _⟩ := hs
      have hg : decide (I < L.length) = false := by rw [decide_eq_false_iff_not]; omega
      have HTE := Lib.hid (HC.out.2.2.trans (rowL_none f _ c x st1 hsg))
      obtain rfl := HTE.out
      clear hb hl hd hbd hsg HC HTE hlt
      go_wp2
      go_quiet (fail)
      have hq0 : Below wr.heap.size wr (wr.drewN nq) := below_drewN (Below.refl _ _) _
      replace HX := Lib.hid (HX.out.step H.out.lt (Fr.of_new hq0))
      replace H := Lib.hid (H.out.same hq0)
      generalize wr.drewN nq = W1 at *
      clear hq0 b0 b1 b3
      have x0 := HX.out.blk.cell 0
      have x1 := HX.out.blk.cell 1
      have x2 := HX.out.blk.cell 2
      have z0 := H.out.res.cell 0
      have z1 := H.out.res.cell 1
      have z2 := H.out.res.cell 2
      have q0 := H.out.res.free 0
      have q1 := H.out.res.free 1
      have q2 := H.out.res.free 2
      have hsz := H.out.size
      go_wp2_with fail
      obtain ⟨p1, p2⟩ := tPost_pass H.out (HX.out.args.mono fun b hb => ⟨hb.1, hb.2.2⟩)
      refine bodyPost_ret (v := .agg #[_, _, _]) (results_cell_row rfl _ _ w.heap.size 24 _ (0, 0) _ rfl p2 Tryd.underlying24 rfl ?_) rfl p1
      as_aux_lemma => kernel_rfl
    all_goals
      have hb1 : b = -1 := by rcases hd with ⟨_, h⟩ | ⟨b'', h, _⟩; exact h; rw [hbd] at h; cases h
      subst hb1
      have hneg : decide ((-1 : Int) < 0) = true := by decide
      obtain ⟨bb, off, cap, rfl, _, d0, d1, _, _⟩ := hs.tok I hlt
      have hc1 : L.length ≤ cap ∧ cap ≤ maxLen := by
        obtain ⟨_, a', cap', hv, h2, h3, _⟩ := id hs
        simp only [Value.slice.injEq] at hv
        omega
      obtain ⟨hc1, hc2⟩ := hc1
      unfold maxLen at hc2
      have hg : decide ((I : Int) < (L.length : Int)) = true := by rw [decide_eq_true_eq]; omega
      have hlI : (I : Int) < (L.length : Int) := by omega
      have HB := Lib.hid (And.intro hb (And.intro hs (And.intro hl hd)))
      generalize (L[I]'hlt).kind = tk at *
      generalize (L[I]'hlt).text = tx at *
      clear hb hs hl hd
    · have HTE := Lib.hid (HC.out.2.2.trans (rowL_none f _ c x st1 hsg))
      obtain rfl := HTE.out
      clear hbd hsg HC HTE HB d1
      go_wp2
      go_quiet (fail)
      have hq0 : Below wr.heap.size wr (wr.drewN nq) := below_drewN (Below.refl _ _) _
      replace HX := Lib.hid (HX.out.step H.out.lt (Fr.of_new hq0))
      replace H := Lib.hid (H.out.same hq0)
      generalize wr.drewN nq = W1 at *
      clear hq0 b0 b1 b3
      have x0 := HX.out.blk.cell 0
      have x1 := HX.out.blk.cell 1
      have x2 := HX.out.blk.cell 2
      have z0 := H.out.res.cell 0
      have z1 := H.out.res.cell 1
      have z2 := H.out.res.cell 2
      have q0 := H.out.res.free 0
      have q1 := H.out.res.free 1
      have q2 := H.out.res.free 2
      have hsz := H.out.size
      go_wp2_with fail
      obtain ⟨p1, p2⟩ := tPost_pass H.out (HX.out.args.mono fun b hb => ⟨hb.1, hb.2.2⟩)
      refine bodyPost_ret (v := .agg #[_, _, _]) (results_cell_row rfl _ _ w.heap.size 24 _ (0, 0) _ rfl p2 Tryd.underlying24 rfl ?_) rfl p1
      as_aux_lemma => kernel_rfl
    · have HTE := Lib.hid (HC.out.2.2.trans (rowL_none f _ c x st1 hsg))
      obtain rfl := HTE.out
      subst hk
      have HOP := Lib.hid hop
      clear hbd hsg HC HTE hop
      go_wp2
      go_quiet (fail)
      have hq0 : Below wr.heap.size wr (wr.drewN nq) := below_drewN (Below.refl _ _) _
      replace HX := Lib.hid (HX.out.step H.out.lt (Fr.of_new hq0))
      replace H := Lib.hid (H.out.same hq0)
      obtain ⟨hb, hs, hl, hd⟩ := HB.out
      replace HB := Lib.hid (And.intro (hb.below hq0 hb.lt) (And.intro (hs.below (hq0.mono (Nat.le_of_lt hb.lt))) (And.intro hl hd)))
      have c0 : (wr.drewN nq).cell? ⟨bt, 0, none⟩ = some (.slice (some ⟨bb, off, none⟩) L.length cap) := b0
      have c1 : (wr.drewN nq).cell? ⟨bt, 1, none⟩ = some (.int .i64 (I : Int)) := b1
      have e1 : (wr.drewN nq).cell? ⟨bb, off + I * 4 + 1, none⟩ = some (.string tx) := d1
      generalize wr.drewN nq = W1 at *
      clear hq0 b0 b1 b3 d0 d1 hb hs hl hd
      go_wp2
      go_still_tail 12, (by kernel_rfl)
      have hq1 := (Below.refl W1.heap.size W1).drew
      go_wp2_with fail
      refine (op_c lv hlv tx _).mono ?_
      rintro e w2 ⟨rfl, hb2⟩
      generalize hoo : opL (lvSigns lv) tx.toList = oo at *
      replace hb2 := hq1.trans (hb2.mono hq1.size)
      replace HX := Lib.hid (HX.out.step H.out.lt (Fr.of_new hb2))
      replace H := Lib.hid (H.out.same hb2)
      obtain ⟨hb, hs, hl, hd⟩ := HB.out
      replace HB := Lib.hid (And.intro (hb.below hb2 hb.lt) (And.intro (hs.below (hb2.mono (Nat.le_of_lt hb.lt))) (And.intro hl hd)))
      clear c0 c1 e1 hb2 hq1 hb hs hl hd
      have ho0 : (oo == 0) = true := by rw [HOP.out]; rfl
      clear HB hoo HOP
      have x0 := HX.out.blk.cell 0
      have x1 := HX.out.blk.cell 1
      have x2 := HX.out.blk.cell 2
      have z0 := H.out.res.cell 0
      have z1 := H.out.res.cell 1
      have z2 := H.out.res.cell 2
      have q0 := H.out.res.free 0
      have q1 := H.out.res.free 1
      have q2 := H.out.res.free 2
      have hsz := H.out.size
      go_wp2_with fail
      obtain ⟨p1, p2⟩ := tPost_pass H.out (HX.out.args.mono fun b hb => ⟨hb.1, hb.2.2⟩)
      refine bodyPost_ret (v := .agg #[_, _, _]) (results_cell_row rfl _ _ w.heap.size 24 _ (0, 0) _ rfl p2 Tryd.underlying24 rfl ?_) rfl p1
      as_aux_lemma => kernel_rfl
    · have HSG := Lib.hid hsg
      have HBD := Lib.hid hbd
      have HOP := Lib.hid hop
      subst hk
      clear hbd hsg hop
      go_wp2
      go_quiet (fail)
      have hq0 : Below wr.heap.size wr (wr.drewN nq) := below_drewN (Below.refl _ _) _
      replace HX := Lib.hid (HX.out.step H.out.lt (Fr.of_new hq0))
      replace H := Lib.hid (H.out.same hq0)
      obtain ⟨hb, hs, hl, hd⟩ := HB.out
      replace HB := Lib.hid (And.intro (hb.below hq0 hb.lt) (And.intro (hs.below (hq0.mono (Nat.le_of_lt hb.lt))) (And.intro hl hd)))
      have c0 : (wr.drewN nq).cell? ⟨bt, 0, none⟩ = some (.slice (some ⟨bb, off, none⟩) L.length cap) := b0
      have c1 : (wr.drewN nq).cell? ⟨bt, 1, none⟩ = some (.int .i64 (I : Int)) := b1
      have e1 : (wr.drewN nq).cell? ⟨bb, off + I * 4 + 1, none⟩ = some (.string tx) := d1
      generalize wr.drewN nq = W1 at *
      clear hq0 b0 b1 b3 d0 d1 hb hs hl hd
      go_wp2
      go_still_tail 12, (by kernel_rfl)
      have hq1 := (Below.refl W1.heap.size W1).drew
      go_wp2_with fail
      refine (op_c lv hlv tx _).mono ?_
      rintro e w2 ⟨rfl, hb2⟩
      generalize hoo : opL (lvSigns lv) tx.toList = oo at *
      replace hb2 := hq1.trans (hb2.mono hq1.size)
      replace HX := Lib.hid (HX.out.step H.out.lt (Fr.of_new hb2))
      replace H := Lib.hid (H.out.same hb2)
      obtain ⟨hb, hs, hl, hd⟩ := HB.out
      replace HB := Lib.hid (And.intro (hb.below hb2 hb.lt) (And.intro (hs.below (hb2.mono (Nat.le_of_lt hb.lt))) (And.intro hl hd)))
      clear c0 c1 e1 hb2 hq1 hb hs hl hd
      have ho0 : (oo == 0) = false := by rw [beq_eq_false_iff_ne]; exact HOP.out
      have HOO := Lib.hid hoo
      clear hoo HOP
      obtain ⟨hb, hs, hl, hd⟩ := HB.out
      have b1 := hb.cell 1
      have f1 := hb.free 1
      have TX := Lib.hid (TxAt.bump hb hs hlt hl (.inl ⟨HBD.out, rfl⟩))
      have HF := Lib.hid ((Fr.refl (fun k => k = bt) w2).setCell (p := ⟨bt, 1, none⟩) (.inl rfl) (.int .i64 ((I : Int) + 1)))
      have hst1 : st1.l.length = L.length - I := by rw [hl, List.length_drop]
      have hcI := curI_of hb
      have HM := Lib.hid (show curI wr bt = I from by have h1 := H.out.tx.cur; have h2 := HMR.out; omega)
      clear hb hs hl hd HB hcI
      go_upto_region 9 with fail
      replace H := Lib.hid (H.out.call HF.out TX.out)
      replace HX := Lib.hid (HX.out.step H.out.lt HF.out)
      generalize w2.setCell _ _ = W3 at *
      clear b1 f1 TX HF
      have hle : st1.next.l.length ≤ st.l.length := by have := HCU.out; have := HM.out; show (st1.l.drop 1).length ≤ _; rw [List.length_drop]; omega
      have hz := H.out.size
      have hbw := HX.out.blk.lt
      go_wp2_with fail
      refine (h1.out st1.next _ hle H.out.tx).mono ?_
      have hlen1 := hlen.out st1.next
      have hnl : st1.next.l.length = st1.l.length - 1 := by show (st1.l.drop 1).length = _; rw [List.length_drop]
      obtain ⟨cc, rfl⟩ : ∃ cc, c = cc + 1 := ⟨c - 1, by obtain ⟨h1, h2, _⟩ := HC.out; by_cases h : lv = 2; have := h1 h; omega; have := h2 h HBD.out; omega⟩
      have HTE := Lib.hid (HC.out.2.2.trans (rowL_go f (lvSigns lv) cc x st1 oo (by rw [HBD.out]; rfl) HSG.out))
      have HCC : Hid ((lv = 2 → cc = 0) ∧ (lv ≠ 2 → (f st1.next).2.l.length < cc)) := ⟨fun h => by have := HC.out.1 h; omega, fun h => by have := HC.out.2.1 h HBD.out; omega⟩
      generalize f st1.next = p1 at *
      obtain ⟨y, st2⟩ := p1
      dsimp only at hlen1 HTE HCC ⊢
      rintro e w4 ⟨_, rfl, ha, hr, hf⟩
      dsimp only at ha hr
      obtain ⟨a2, n2, c2, rfl⟩ := ha.slice
      replace HX := Lib.hid (HX.out.step H.out.lt hf)
      replace H := Lib.hid (H.out.call hf hr)
      have hfs := hf.size
      have hal : Below w4.heap.size w4 (w4.alloc (.cells #[.int .u8 y.op, .int .i64 y.n, .slice a2 n2 c2] 24)) := (Below.refl _ _).alloc (Nat.le_refl _) _
      go_upto_region 10 with fail
      have hY := Blk.new w4 #[.int .u8 y.op, .int .i64 y.n, .slice a2 n2 c2] 24
      have hza : (w4.alloc (.cells #[.int .u8 y.op, .int .i64 y.n, .slice a2 n2 c2] 24)).heap.size = w4.heap.size + 1 := by simp
      have HY := Lib.hid (ha.fr (S := fun _ => False) (Q := fun b => w.heap.size < b ∧ b ≠ bx ∧ b < (w4.alloc (.cells #[.int .u8 y.op, .int .i64 y.n, .slice a2 n2 c2] 24)).heap.size) ((Fr.refl (fun _ => False) w4).alloc (.cells #[.int .u8 y.op, .int .i64 y.n, .slice a2 n2 c2] 24)) (fun b hb => ⟨hb.2, id⟩) (fun b hb => ⟨by omega, by omega, by omega⟩))
      replace HX := Lib.hid (HX.out.step H.out.lt (Fr.of_new hal))
      replace H := Lib.hid (H.out.same hal)
      clear ha hr hf hal hfs hza
      generalize hyb : w4.heap.size = yb at *
      generalize w4.alloc _ = W5 at *
      clear hyb
      have y0 := hY.cell 0
      have y1 := hY.cell 1
      have y2 := hY.cell 2
      have x0 := HX.out.blk.cell 0
      have x1 := HX.out.blk.cell 1
      have x2 := HX.out.blk.cell 2
      have xf0 := HX.out.blk.free 0
      have xf1 := HX.out.blk.free 1
      have xf2 := HX.out.blk.free 2
      have hbl := HX.out.blk.lt
      clear hY
      go_upto_region 11 with fail
      obtain ⟨q1, q2⟩ := KX.put (o := oo) H.out HX.out HY.out
      replace H := Lib.hid q1
      replace HX := Lib.hid q2
      clear q1 q2 HY x0 x1 x2 xf0 xf1 xf2 y0 y1 y2 hbl
      generalize World.alloc (World.setCell (World.setCell (World.setCell W5 _ _) _ _) _ _) _ = W6 at *
      by_cases h2 : lv = 2
      · have hc0 := HCC.out.1 h2
        subst hc0
        have hlv2 : ((lv : Int) == 2) = true := by rw [h2]; rfl
        obtain rfl := HTE.out
        have x0 := HX.out.blk.cell 0
        have x1 := HX.out.blk.cell 1
        have x2 := HX.out.blk.cell 2
        have z0 := H.out.res.cell 0
        have z1 := H.out.res.cell 1
        have z2 := H.out.res.cell 2
        have q0 := H.out.res.free 0
        have q1 := H.out.res.free 1
        have q2 := H.out.res.free 2
        have hsz := H.out.size
        go_wp2_with fail
        obtain ⟨p1, p2⟩ := tPost_pass H.out (HX.out.args.mono fun b hb => ⟨hb.1, hb.2.2⟩)
        refine bodyPost_ret (v := .agg #[_, _, _]) (results_cell_row rfl _ _ w.heap.size 24 _ (0, 0) _ rfl p2 Tryd.underlying24 rfl ?_) rfl p1
        as_aux_lemma => kernel_rfl
      · have hlv2 : ((lv : Int) == 2) = false := by rw [beq_eq_false_iff_ne]; omega
        go_wp2
        go_roundw
        case rel => exact ⟨⟨cc, _, st2, _, 2, 2, fun h => absurd h h2, fun h _ => HCC.out.2 h, HTE.out, H.out, HX.out⟩, by have := H.out.tx.cur; omega⟩
        case measure => have h3 := H.out.tx.cur; have h4 := HM.out; omega

end Go.Proofs.YtlkkigpjahlloaaDoor
