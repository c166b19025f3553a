/-
  The walk of the reference's Parse.
-/
import Derived.Test.YtlkkigpjahlloaaDoorG8
import Derived.Test.YtlkkigpjahlloaaDoorE11
import Derived.Test.YtlkkigpjahlloaaDoorF2
import Derived.Test.YtlkkigpjahlloaaDoorR3
namespace Go.Proofs.YtlkkigpjahlloaaDoor
open Go.RowKit
set_option linter.unusedVariables false
attribute [local go_sem ↓] Go.wp_at_zero Go.wp_at_succ

theorem endTok_len {t : Tok} {out o : List Tok} (h : endTok t out = some o) : o.length ≤ out.length + (if t.kind = 0 then 0 else 1) := by
  unfold endTok at h
  by_cases h2 : t.kind = 2
  · rw [if_pos h2] at h
    split at h
    · cases h
    · simp only [Option.some.injEq] at h
      subst h
      rw [if_neg (by omega)]
      simp
  · rw [if_neg h2] at h
    by_cases h0 : t.kind = 0
    · rw [if_pos h0, Option.some.injEq] at h
      subst h
      rw [if_pos h0]
      exact Nat.le_refl _
    · rw [if_neg h0, Option.some.injEq] at h
      subst h
      rw [if_neg h0]
      simp
theorem tokGo_len : ∀ (rs : List Int) (t : Tok) (pos : Int) (out : List Tok), (tokGo t pos out rs).1.length ≤ out.length + (if t.kind = 0 then 0 else 1) + rs.length
  | [], t, pos, out => by
    simp only [tokGo]
    cases he : endTok t out with
    | none => simp
    | some o => have := endTok_len he; simpa using this
  | r :: rs, t, pos, out => by
    simp only [tokGo, List.length_cons]
    split
    · have := tokGo_len rs { t with text := t.text ++ Utf8.encode r } (pos + 1) out
      dsimp only at this
      omega
    · cases he : endTok t out with
      | none => simp
      | some o =>
        have h1 := endTok_len he
        dsimp only
        split
        · have := tokGo_len rs Tok.zero (pos + 1) o
          rw [if_pos (by rfl)] at this
          omega
        · split
          · simp
          · have := tokGo_len rs ⟨kindN r, Utf8.encode r, 0, pos + 1⟩ (pos + 1) o
            dsimp only at this
            split at this <;> omega
theorem toks_len (s : ByteArray) : (toks s).1.length ≤ 400 := by
  unfold toks
  split
  · simp
  · have := tokGo_len (runes s) Tok.zero (-1) []
    rw [if_pos (by rfl)] at this
    have h2 := runesAt_length s 0
    unfold runes at this ⊢
    simp only [List.length_nil] at this
    omega

theorem enc_first (r : Int) : ∃ b t, (Utf8.encode r).toList = b :: t ∧ (b.toNat < 128 → r = (b.toNat : Int)) := by
  have hl : ∀ l : List UInt8, (⟨l.toArray⟩ : ByteArray).toList = l := fun l => by rw [ByteArray.toList_eq]
  unfold Utf8.encode
  dsimp only
  by_cases hv : Utf8.valid r = true
  · rw [if_pos hv]
    have h0 : 0 ≤ r := by
      unfold Utf8.valid at hv
      simp only [Bool.or_eq_true, Bool.and_eq_true, decide_eq_true_eq] at hv
      omega
    have hr : (r.toNat : Int) = r := Int.toNat_of_nonneg h0
    have hm : r.toNat ≤ 1114111 := by
      unfold Utf8.valid at hv
      simp only [Bool.or_eq_true, Bool.and_eq_true, decide_eq_true_eq] at hv
      omega
    generalize r.toNat = c at *
    by_cases h1 : c < 128
    · rw [if_pos h1]
      refine ⟨_, _, hl _, fun _ => ?_⟩
      have : (UInt8.ofNat c).toNat = c := by simp; omega
      rw [this, hr]
    · rw [if_neg h1]
      by_cases h2 : c < 2048
      · rw [if_pos h2]
        refine ⟨_, _, hl _, fun h => ?_⟩
        have : (UInt8.ofNat (192 + c / 64)).toNat = 192 + c / 64 := by simp; omega
        omega
      · rw [if_neg h2]
        by_cases h3 : c < 65536
        · rw [if_pos h3]
          refine ⟨_, _, hl _, fun h => ?_⟩
          have : (UInt8.ofNat (224 + c / 4096)).toNat = 224 + c / 4096 := by simp; omega
          omega
        · rw [if_neg h3]
          refine ⟨_, _, hl _, fun h => ?_⟩
          have : (UInt8.ofNat (240 + c / 262144)).toNat = 240 + c / 262144 := by simp; omega
          omega
  · rw [if_neg hv]
    refine ⟨239, [191, 189], ?_, fun h => absurd h (by decide)⟩
    decide +kernel

theorem sign_kind : ∀ lv, ∀ p ∈ lvSigns lv, ∃ b t, p.1 = b :: t ∧ b.toNat < 128 ∧ signB (b.toNat : Int) = true := by
  have key : ∀ sg : List (List UInt8 × Int), (sg.all fun p => match p.1 with | [] => false | b :: _ => decide (b.toNat < 128) && signB (b.toNat : Int)) = true → ∀ p ∈ sg, ∃ b t, p.1 = b :: t ∧ b.toNat < 128 ∧ signB (b.toNat : Int) = true := by
    intro sg h p hp
    have := List.all_eq_true.1 h p hp
    obtain ⟨x, o⟩ := p
    cases x with
    | nil => cases this
    | cons b t =>
      simp only [Bool.and_eq_true, decide_eq_true_eq] at this
      exact ⟨b, t, rfl, this.1, this.2⟩
  intro lv
  match lv with
  | 0 => exact key _ (by decide)
  | 1 => exact key _ (by decide)
  | 2 => exact key _ (by decide)
  | 3 => exact key _ (by decide)
  | n + 4 => exact key _ (by simp only [lvSigns]; decide)

theorem toks_ok (s : ByteArray) : TkOk (toks s).1 ∧ NmOk (toks s).1 := by
  obtain ⟨hw, _⟩ := toks_wf s
  refine ⟨⟨toks_len s, fun t ht => ⟨(hw t ht).kind, (hw t ht).at_⟩⟩, ?_⟩
  intro t ht hk lv p hp he
  obtain ⟨r, rest, hr, htx⟩ := (hw t ht).name hk
  obtain ⟨b, tl, e1, e2⟩ := enc_first r
  obtain ⟨b', t', e3, e4, e5⟩ := sign_kind lv p hp
  rw [htx, toList_append, e1, e3, List.cons_append, List.cons.injEq] at he
  obtain ⟨rfl, _⟩ := he
  have hrb := e2 e4
  rw [← hrb] at e5
  unfold kindN at hr
  split at hr
  · omega
  · simp at hr

set_option maxRecDepth 100000 in
set_option maxHeartbeats 4000000 in
theorem rParse_c (s : ByteArray) (w : World) : Calls Tryd.prog 17 #[.string s] w (ParsePost (parse s) w) := by
  have hB0 := ((Below.refl w.heap.size w).alloc (Nat.le_refl _) (.cells #[.int .u8 0, .int .i64 0, .slice none 0 0] 24)).alloc (by simp) (.cells #[.int .u8 0, .int .i64 0, .slice none 0 0] 24)
  have hres := (Blk.new w #[.int .u8 0, .int .i64 0, .slice none 0 0] 24).alloc (.cells #[.int .u8 0, .int .i64 0, .slice none 0 0] 24)
  have hnon := Blk.new_at (w.alloc (.cells #[.int .u8 0, .int .i64 0, .slice none 0 0] 24)) #[.int .u8 0, .int .i64 0, .slice none 0 0] 24 (k := w.heap.size + 1) (by simp)
  have HPR : Hid (parse s = if (toks s).2.2 ≠ 0 then (Ex.zero, (toks s).2.1, (toks s).2.2)
      else parseEnd (runes s).length (prF (runes s).length 0 ⟨(toks s).1, none⟩).1 (prF (runes s).length 0 ⟨(toks s).1, none⟩).2) := rfl
  obtain ⟨target, htg⟩ : ∃ p, parse s = p := ⟨_, rfl⟩
  rw [htg] at HPR ⊢
  clear htg
  have HTK := Lib.hid (fun W => rTokens_c s W)
  unfold TokPost at HTK
  have hok := toks_ok s
  have hsz : (toks s).2.2 = 0 → s.size ≤ 400 := by
    intro h
    unfold toks at h
    split at h
    · simp at h
    · omega
  generalize toks s = tk at *
  obtain ⟨tl, ta, te⟩ := tk
  try dsimp only at HPR HTK hsz hok
  by_cases hte : te = 0
  · subst hte
    rw [if_neg (by simp)] at HPR
    have hs4 := hsz rfl
    have HL := Lib.hid hok.1
    have HNM := Lib.hid hok.2
    have hl4 := hok.1.1
    clear hsz hok
    have hrl : (runes s).length ≤ s.size := by have := runesAt_length s 0; unfold runes; omega
    go_enter Tryd.func17, Tryd.ntmps17
    go_upto_region 2 with fail
    generalize World.alloc (World.alloc w _) _ = W0 at *
    go_wp2_with fail
    refine (HTK.out W0).mono ?_
    rintro e w1 ⟨v, rfl, hs, hb⟩
    obtain ⟨g0, av, cv, rfl, g1, g2, g3⟩ := id hs
    clear g0 g1 g2 g3
    have hlw := hnon.lt
    replace hres := hres.below hb hres.lt
    replace hnon := hnon.below hb hnon.lt
    replace hB0 := hB0.trans (hb.mono hB0.size)
    have HS := Lib.hid hs
    clear hs hb HTK
    go_wp2_with fail
    refine (Runes_c s w1 (by omega)).mono ?_
    rintro e w2 ⟨v1, v2, rfl, hr, hb⟩
    obtain ⟨g0, ar, cr, rfl, g1, g2, g3⟩ := hr
    clear g0 g1 g2 g3
    replace hres := hres.below hb hres.lt
    replace hnon := hnon.below hb hnon.lt
    replace hB0 := hB0.trans (hb.mono hB0.size)
    replace HS := Lib.hid (HS.out.below hb)
    have hsz2 := hb.size
    clear hb
    generalize (runes s).length = k at *
    go_upto_region 7 with fail
    have hbx := Blk.new w2 #[.slice av tl.length cv, .int .i64 ((0 : Nat) : Int), .int .i64 (k : Int), .int .i64 (-1)] 64
    have hal : Below w2.heap.size w2 (w2.alloc (.cells #[.slice av tl.length cv, .int .i64 0, .int .i64 (k : Int), .int .i64 (-1)] 64)) := (Below.refl _ _).alloc (Nat.le_refl _) _
    have HT : Hid (TxAt (w2.alloc (.cells #[.slice av tl.length cv, .int .i64 0, .int .i64 (k : Int), .int .i64 (-1)] 64)) w2.heap.size (k : Int) tl ⟨tl, none⟩) :=
      ⟨_, 0, -1, hbx, (HS.out.mono hsz2).below hal, Nat.zero_le _, rfl, .inl ⟨rfl, rfl⟩⟩
    have hz2 := hnon.lt
    replace hres := hres.below hal hres.lt
    replace hnon := hnon.below hal hnon.lt
    replace hB0 := hB0.trans (hal.mono hB0.size)
    have hz3 : w2.heap.size < (w2.alloc (.cells #[.slice av tl.length cv, .int .i64 0, .int .i64 (k : Int), .int .i64 (-1)] 64)).heap.size := by simp
    clear hbx hal hsz2 HS hrl
    generalize w2.heap.size = bt at *
    generalize w2.alloc _ = W3 at *
    go_wp2_with fail
    refine (trow_c bt k (by omega) tl HL.out HNM.out _ hl4 W3 HT.out).mono ?_
    generalize prF (k : Int) 0 ⟨tl, none⟩ = p at *
    obtain ⟨x, st⟩ := p
    dsimp only at HPR
    rintro e w4 ⟨_, rfl, ha, hr, hf⟩
    dsimp only at ha hr ⊢
    obtain ⟨a9, n9, c9, rfl⟩ := ha.slice
    go_upto_region 8 with fail
    have hal : Below w4.heap.size w4 (w4.alloc (.cells #[.int .u8 x.op, .int .i64 x.n, .slice a9 n9 c9] 24)) := (Below.refl _ _).alloc (Nat.le_refl _) _
    have hX := Blk.new w4 #[.int .u8 x.op, .int .i64 x.n, .slice a9 n9 c9] 24
    have hfA := hf.alloc (.cells #[.int .u8 x.op, .int .i64 x.n, .slice a9 n9 c9] 24)
    replace hres := hres.fr hfA (by omega)
    replace hnon := hnon.fr hfA (by omega)
    replace hB0 := hB0.trans (hfA.below (B := w.heap.size) (by omega) (fun k hk => by omega))
    have HT4 := Lib.hid (hr.keep hal)
    have hs4' := hf.size
    have HA := Lib.hid (ha.fr (S := fun _ => False) (w' := w4.alloc (.cells #[.int .u8 x.op, .int .i64 x.n, .slice a9 n9 c9] 24)) (Q := fun b => w.heap.size < b ∧ b < (w4.alloc (.cells #[.int .u8 x.op, .int .i64 x.n, .slice a9 n9 c9] 24)).heap.size) ((Fr.refl (fun _ => False) w4).alloc (.cells #[.int .u8 x.op, .int .i64 x.n, .slice a9 n9 c9] 24)) (fun b hb => ⟨hb.2, id⟩) (fun b hb => ⟨by omega, by simp; omega⟩))
    clear ha hr hf hfA HT hal
    generalize w4.heap.size = xb at *
    generalize w4.alloc _ = W5 at *
    have HX := Lib.hid hX
    have HRES := Lib.hid hres
    have HNON := Lib.hid hnon
    have HBL := Lib.hid hB0
    clear hX hres hnon hB0 hz3 hs4'
    obtain ⟨v, I, b, hb, hsl, hI, hl, hd⟩ := HT4.out.ex
    have b1 := hb.cell 1
    have b3 := hb.cell 3
    have n0 := HNON.out.cell 0
    have n1 := HNON.out.cell 1
    have n2 := HNON.out.cell 2
    have z0 := HRES.out.cell 0
    have z1 := HRES.out.cell 1
    have z2 := HRES.out.cell 2
    have q0 := HRES.out.free 0
    have q1 := HRES.out.free 1
    have q2 := HRES.out.free 2
    cases hbd : st.bad with
    | some b' =>
      have hb1 : b = b' ∧ 0 ≤ b' := by rcases hd with ⟨h, _⟩ | ⟨b'', h, rfl, h3⟩; rw [hbd] at h; cases h; rw [hbd] at h; cases h; exact ⟨rfl, h3⟩
      obtain ⟨rfl, hb2⟩ := hb1
      have hneg : ¬ b < 0 := by omega
      have HTE : Hid (target = (Ex.zero, b, 80)) := by
        show _ = _
        rw [HPR.out]
        unfold parseEnd
        have : (if st.l = [] then st else st.fails k).bad = some b := by
          split
          · exact hbd
          · obtain ⟨l, bd⟩ := st
            dsimp only at hbd
            subst hbd
            rfl
        rw [this]
      clear hb hsl hl hd hbd HPR
      go_upto_region 11 with fail
      go_region_with fail
      all_goals
        go_wp2_with fail
        obtain ⟨p1, p2⟩ := parsePost_mk (w3 := W5.drew) (x := Ex.zero) HTE.out HRES.out (.nil none 0 (Nat.zero_le _)) HBL.out.drew
        refine bodyPost_ret (v := .tuple #[.agg #[_, _, _], _, _]) (results_cell_row3 rfl _ _ w.heap.size 24 _ (0, 0) _ rfl p2 Tryd.underlying24 rfl ?_ (.int .i64 b) (.int .i64 80) rfl rfl) rfl p1
        as_aux_lemma => kernel_rfl
    | none =>
      have hb1 : b = -1 := by rcases hd with ⟨_, h⟩ | ⟨b'', h, _⟩; exact h; rw [hbd] at h; cases h
      subst hb1
      have hneg : (-1 : Int) < 0 := by decide
      by_cases hlt : I < tl.length
      · have hlI : (I : Int) < (tl.length : Int) := by omega
        have hne : st.l ≠ [] := by rw [hl]; intro h; have := congrArg List.length h; rw [List.length_drop] at this; simp at this; omega
        have hhp := here_pos (E := (k : Int)) (by omega) HL.out hl
        have HTE : Hid (target = (Ex.zero, st.here k, 80)) := by
          show _ = _
          rw [HPR.out]
          unfold parseEnd
          rw [if_neg hne]
          obtain ⟨l, bd⟩ := st
          dsimp only at hbd
          subst hbd
          rfl
        have HBK := Lib.hid hb
        clear hb hsl hl hd hbd HPR hne
        go_wp2_with fail
        refine (at_c bt k tl HL.out st _ HT4.out).mono ?_
        rintro e w6 ⟨rfl, hb6⟩
        generalize st.here k = hh at *
        have hbk := HBK.out.below hb6 HBK.out.lt
        have f3 := hbk.free 3
        have c3 := hbk.cell 3
        have hz := hbk.lt
        have hFr : Fr (fun k => k = bt) W5 (w6.setCell ⟨bt, 3, none⟩ (.int .i64 hh)) := (Fr.of_new (S := fun k => k = bt) hb6).setCell (p := ⟨bt, 3, none⟩) (.inl rfl) _
        go_upto_region 10 with fail
        replace HRES := Lib.hid (HRES.out.fr hFr (by omega))
        replace HNON := Lib.hid (HNON.out.fr hFr (by omega))
        replace HBL := Lib.hid (HBL.out.trans (hFr.below (B := w.heap.size) (by have := HBL.out.size; omega) (fun k hk => by omega)))
        have d3 : (w6.setCell ⟨bt, 3, none⟩ (.int .i64 hh)).cell? ⟨bt, 3, none⟩ = some (.int .i64 hh) := (hbk.set 3 (.int .i64 hh)).cell 3
        clear b1 b3 n0 n1 n2 z0 z1 z2 q0 q1 q2 hb6 hbk f3 c3 hz hFr HBK
        generalize w6.setCell _ _ = W6 at *
        have n0 := HNON.out.cell 0
        have n1 := HNON.out.cell 1
        have n2 := HNON.out.cell 2
        have z0 := HRES.out.cell 0
        have z1 := HRES.out.cell 1
        have z2 := HRES.out.cell 2
        have q0 := HRES.out.free 0
        have q1 := HRES.out.free 1
        have q2 := HRES.out.free 2
        go_upto_region 11 with fail
        go_region_with fail
        all_goals
          go_wp2_with fail
          obtain ⟨p1, p2⟩ := parsePost_mk (w3 := W6.drew) (x := Ex.zero) HTE.out HRES.out (.nil none 0 (Nat.zero_le _)) HBL.out.drew
          refine bodyPost_ret (v := .tuple #[.agg #[_, _, _], _, _]) (results_cell_row3 rfl _ _ w.heap.size 24 _ (0, 0) _ rfl p2 Tryd.underlying24 rfl ?_ (.int .i64 hh) (.int .i64 80) rfl rfl) rfl p1
          as_aux_lemma => kernel_rfl
      · have hlI : ¬ (I : Int) < (tl.length : Int) := by omega
        have hnil : st.l = [] := by rw [hl]; exact List.drop_of_length_le (by omega)
        have HP5 : Hid (target = parseRes x st.bad) := HPR.out.trans (parseEnd_nil _ _ _ hnil)
        rw [hbd] at HP5
        have hE : ExAt W5 W5.heap.size (.agg #[.int .u8 x.op, .int .i64 x.n, .slice a9 n9 c9]) x := ⟨_, rfl, HA.out.toAt fun b hb => hb.2⟩
        have HE := Lib.hid hE
        have hdl := deepN_le 16 x
        have hP6 : (16 < deepN 16 x ∧ target = (Ex.zero, 0, 81)) ∨ (¬ 16 < deepN 16 x ∧ target = (x, 0, 0)) := by
          rw [HP5.out]
          by_cases h : 16 < deepN 16 x
          · exact .inl ⟨h, by unfold parseRes; rw [if_pos h]⟩
          · exact .inr ⟨h, by unfold parseRes; rw [if_neg h]⟩
        generalize hdd : deepN 16 x = dd at *
        have HDD := Lib.hid hdd
        clear hE hdd HPR hb hsl hl hd hbd hnil
        have hl5 := HX.out.lt
        have hl6 := HRES.out.lt
        have y0 := HX.out.cell 0
        have y1 := HX.out.cell 1
        have y2 := HX.out.cell 2
        rcases hP6 with ⟨hd1, hp6⟩ | ⟨hd1, hp6⟩
        all_goals
          have HP6 := Lib.hid hp6
          clear hp6 HP5
          go_wp2_with fail
          refine (rDeep_c x _ W5.heap.size _ HE.out (Nat.le_refl _)).mono ?_
          rw [HDD.out]
          rintro e w6 ⟨rfl, hb6⟩
          have hr6 := HRES.out.below hb6 hl6
          have hn6 := HNON.out.below hb6 HNON.out.lt
          have hx6 := HX.out.below hb6 hl5
          clear b1 b3 n0 n1 n2 z0 z1 z2 q0 q1 q2 y0 y1 y2
          have n0 := hn6.cell 0
          have n1 := hn6.cell 1
          have n2 := hn6.cell 2
          have z0 := hr6.cell 0
          have z1 := hr6.cell 1
          have z2 := hr6.cell 2
          have q0 := hr6.free 0
          have q1 := hr6.free 1
          have q2 := hr6.free 2
          have y0 := hx6.cell 0
          have y1 := hx6.cell 1
          have y2 := hx6.cell 2
          go_wp2_with fail
        · obtain ⟨e1, e2⟩ := parsePost_mk (x := Ex.zero) HP6.out hr6 (.nil none 0 (Nat.zero_le _)) (HBL.out.trans (hb6.mono (Nat.le_of_lt hl6)))
          refine bodyPost_ret (v := .tuple #[.agg #[_, _, _], _, _]) (results_cell_row3 rfl _ _ w.heap.size 24 _ (0, 0) _ rfl e2 Tryd.underlying24 rfl ?_ (.int .i64 0) (.int .i64 81) rfl rfl) rfl e1
          as_aux_lemma => kernel_rfl
        · obtain ⟨e1, e2⟩ := parsePost_mk (x := x) HP6.out hr6 (HA.out.fr (Q := fun b => w.heap.size < b ∧ b < w6.heap.size) (Fr.of_new (S := fun _ => False) hb6) (fun b hb => ⟨hb.2, id⟩) (fun b hb => ⟨hb.1, Nat.lt_of_lt_of_le hb.2 hb6.size⟩)) (HBL.out.trans (hb6.mono (Nat.le_of_lt hl6)))
          refine bodyPost_ret (v := .tuple #[.agg #[_, _, _], _, _]) (results_cell_row3 rfl _ _ w.heap.size 24 _ (0, 0) _ rfl e2 Tryd.underlying24 rfl ?_ (.int .i64 0) (.int .i64 0) rfl rfl) rfl e1
          as_aux_lemma => kernel_rfl
  · have hte' : (te != 0) = true := by simpa using hte
    have HE := Lib.hid (HPR.out.trans (if_pos hte))
    clear HPR hte hok
    go_enter Tryd.func17, Tryd.ntmps17
    go_upto_region 2 with fail
    generalize World.alloc (World.alloc w _) _ = W0 at *
    go_wp2_with fail
    refine (HTK.out W0).mono ?_
    rintro e w1 ⟨v, rfl, hs, hb⟩
    clear hs
    have h0 := hres.below hb hres.lt
    have hn := hnon.below hb hnon.lt
    have z0 := h0.cell 0
    have z1 := h0.cell 1
    have z2 := h0.cell 2
    have k0 := h0.free 0
    have k1 := h0.free 1
    have k2 := h0.free 2
    have n0 := hn.cell 0
    have n1 := hn.cell 1
    have n2 := hn.cell 2
    go_wp2_with fail
    obtain ⟨p1, p2⟩ := parsePost_mk (x := Ex.zero) HE.out h0 (.nil none 0 (Nat.zero_le _)) (hB0.trans (hb.mono hB0.size))
    refine bodyPost_ret (v := .tuple #[.agg #[_, _, _], _, _]) (results_cell_row3 rfl _ _ w.heap.size 24 _ (0, 0) _ rfl p2 Tryd.underlying24 rfl ?_ (.int .i64 ta) (.int .i64 te) rfl rfl) rfl p1
    as_aux_lemma => kernel_rfl

end Go.Proofs.YtlkkigpjahlloaaDoor
