/-
  The walk of lex.Tokens.
-/
import Derived.Test.YtfieoehchghiiaaW4
namespace Go.Proofs.Ytfieoehchghiiaa
open Go.RowKit
set_option linter.unusedVariables false

section
variable {w w' : World} {Bt Bo base : Nat} {t : Tok} {v : Value} {out : List Tok}
theorem Held.below (h : Held w Bt Bo base t v out) (hb : Below w.heap.size w w') : Held w' Bt Bo base t v out :=
  ⟨h.tok.below hb h.tok.lt, h.row.below hb h.row.lt, h.own.kept (row := none) ⟨hb.os, hb.tape, hb.output, hb.size, fun k hk _ => hb.block k hk⟩ (by cases hv : v.ownBlock <;> simp)⟩
theorem Held.iterAt (h : Held w Bt Bo base t v out) {k : Nat} (h1 : Bt ≠ k) (h2 : Bo ≠ k) (h3 : k < base) (s : ByteArray) (pos : Nat) : Held (w.iterAt k s pos) Bt Bo base t v out :=
  ⟨h.tok.iterAt h1 s pos, h.row.iterAt h2 s pos, ownsRow_iterAt h.own h3 s pos⟩
theorem Held.text (h : Held w Bt Bo base t v out) (h1 : Bt < base) (h3 : Bt ≠ Bo) (x : ByteArray) : Held (w.setCell ⟨Bt, 1, none⟩ (.string x)) Bt Bo base { t with text := x } v out :=
  ⟨h.tok.set 1 _, h.row.other (p := ⟨Bt, 1, none⟩) (Ne.symm h3) _, ownsRow_setCell_below h.own (a := ⟨Bt, 1, none⟩) h1 _⟩
theorem Held.put (h : Held w Bt Bo base t v out) (h1 : Bt < base) (h3 : Bt ≠ Bo) (u : Tok) :
    Held ((((w.setCell ⟨Bt, 0, none⟩ (.int .u8 u.kind)).setCell ⟨Bt, 1, none⟩ (.string u.text)).setCell ⟨Bt, 2, none⟩ (.int .i64 u.n)).setCell ⟨Bt, 3, none⟩ (.int .i64 u.at_)) Bt Bo base u v out :=
  ⟨(((h.tok.set 0 _).set 1 _).set 2 _).set 3 _, (((h.row.other (p := ⟨Bt, 0, none⟩) (Ne.symm h3) _).other (p := ⟨Bt, 1, none⟩) (Ne.symm h3) _).other (p := ⟨Bt, 2, none⟩) (Ne.symm h3) _).other (p := ⟨Bt, 3, none⟩) (Ne.symm h3) _,
    ownsRow_setCell_below (ownsRow_setCell_below (ownsRow_setCell_below (ownsRow_setCell_below h.own (a := ⟨Bt, 0, none⟩) h1 _) (a := ⟨Bt, 1, none⟩) h1 _) (a := ⟨Bt, 2, none⟩) h1 _) (a := ⟨Bt, 3, none⟩) h1 _⟩
end

/-- What a call of lex.Tokens (either one) answers. -/
def TokPost (s : ByteArray) (w : World) (e : Ending) (w' : World) : Prop :=
  ∃ v, e = .returned (.tuple #[v, .int .i64 (toks s).2.1, .int .i64 (toks s).2.2]) ∧ Sl w' w'.heap.size 4 v (toks s).1.length (toksCells (toks s).1) ∧ Below w.heap.size w w'

theorem digit_encode (r : Int) (h2 : kindN r = 2) : ∀ b ∈ (Utf8.encode r).data.toList, 48 ≤ b.toNat ∧ b.toNat ≤ 57 := by
  intro b hb
  have hr : 48 ≤ r ∧ r ≤ 57 := by
    unfold kindN at h2
    by_cases h0 : 48 ≤ r ∧ r ≤ 57
    · exact h0
    · rw [if_neg h0] at h2
      split at h2
      · omega
      · split at h2 <;> omega
  have he : (Utf8.encode r).data.toList = [UInt8.ofNat r.toNat] := by
    unfold Utf8.encode
    have hv : Utf8.valid r = true := by rw [validRune_eq]; unfold validRune; simp; omega
    rw [if_pos hv]
    dsimp only
    rw [if_pos (by omega)]
  rw [he] at hb
  simp only [List.mem_singleton] at hb
  subst hb
  rw [UInt8.toNat_ofNat']
  omega
theorem digits_one (r : Int) : kindN r = 2 → ∀ b ∈ (Utf8.encode r).data.toList, 48 ≤ b.toNat ∧ b.toNat ≤ 57 := digit_encode r
theorem digits_snoc (k : Int) (tx : ByteArray) (r : Int) (h : k = 2 → ∀ b ∈ tx.data.toList, 48 ≤ b.toNat ∧ b.toNat ≤ 57) (hg : goesB k tx r = true) :
    k = 2 → ∀ b ∈ (tx ++ Utf8.encode r).data.toList, 48 ≤ b.toNat ∧ b.toNat ≤ 57 := by
  rintro rfl b hb
  have h2 : kindN r = 2 := by unfold goesB at hg; simpa using hg
  rw [ByteArray.data_append, Array.toList_append, List.mem_append] at hb
  rcases hb with hb | hb
  · exact h rfl b hb
  · exact digit_encode r h2 b hb

/-- Between two runes. -/
structure TokRel (s : ByteArray) (w : World) (i : Value) (wr : World) : Prop where
  ex : ∃ (t : Tok) (v : Value) (out : List Tok) (pos : Nat) (k : Int), i = .int .i64 k ∧ wr.heap[w.heap.size + 2]? = some (.stringIter s pos) ∧
    Held wr (w.heap.size + 1) w.heap.size (w.heap.size + 3) t v out ∧ Below w.heap.size w wr ∧ w.heap.size + 3 ≤ wr.heap.size ∧
    (t.kind = 2 → ∀ b ∈ t.text.data.toList, 48 ≤ b.toNat ∧ b.toNat ≤ 57) ∧ out.length + (runesAt s pos).length ≤ 400 ∧ -1 ≤ k ∧ k + (runesAt s pos).length ≤ 400 ∧
    t.text.size + 4 * (runesAt s pos).length ≤ 1600 ∧ tokGo t k out (runesAt s pos) = toks s

set_option maxHeartbeats 1000000 in
theorem Tokens_c (s : ByteArray) (w : World) : Calls Try.prog 107 #[.string s] w (TokPost s w) := by
  by_cases h400 : 400 < s.size
  · have h4 : (400 : Int) < (s.size : Int) := by omega
    have hP : TokPost s w (.returned (.tuple #[.slice none 0 0, .int .i64 0, .int .i64 3])) w := by
      unfold TokPost toks
      rw [if_pos h400]
      exact ⟨_, rfl, Sl.nil _ _ _, Below.refl _ _⟩
    have HP := Lib.hid hP
    clear hP
    go_enter Try.func107, Try.ntmps107
    go_wp2
    go_step3
    go_wp2
    rw [Exit.noGoto_ret]
    go_ret3
    exact HP.out
  · have h4 : ¬ (400 : Int) < (s.size : Int) := by omega
    have hmf : ∀ (fn : Fn) (first cap : Array Value) (w : World), (Instr.makeFunc fn first cap).run Try.prog w = .ok (.func fn first cap) w := fun _ _ _ _ => rfl
    go_enter Try.func107, Try.ntmps107
    go_wp2_with fail
    go_step3
    go_wp2_with fail
    go_step3
    go_wp2_with fail
    go_loopw [8] (fun i wr => TokRel s w i wr) (fun _ wr => s.size - wr.iterPos (w.heap.size + 2))
    case atStart =>
      refine ⟨⟨Tok.zero, .slice none 0 0, [], 0, -1, rfl, ?_, ⟨?_, ?_, ?_⟩, ?_, ?_, ?_, ?_, ?_, ?_, ?_, ?_⟩⟩
      · exact heap_new_at _ _ (by simp)
      · exact (Blk.new_at _ _ _ (by simp)).alloc _
      · exact ((Blk.new _ _ _).alloc _).alloc _
      · exact World.ownsRow_nil _ _ _ _
      · exact (((Below.refl _ _).alloc (Nat.le_refl _) _).alloc (by simp) _).alloc (by simp; omega) _
      · simp [World.iter]
      · intro h; exact absurd h (by decide)
      · have := runesAt_length s 0; simp; omega
      · omega
      · have := runesAt_length s 0; omega
      · have := runesAt_length s 0; show 0 + 4 * _ ≤ 1600; omega
      · unfold toks; rw [if_neg h400]; rfl
    case round =>
      obtain ⟨t, v, out, pos, k, rfl, hit, hH, hB, hsz, hdig, ho, hk1, hk2, htx, hgo⟩ := hrel.ex
      have hH1 := hH.iterAt (k := w.heap.size + 2) (by omega) (by omega) (by omega) s (pos + (Utf8.decode s pos).2)
      have hB1 := Lib.below_iterAt hB (k := w.heap.size + 2) (by omega) s (pos + (Utf8.decode s pos).2)
      have hit1 := Lib.iterAt_heap wr (w.heap.size + 2) s pos (pos + (Utf8.decode s pos).2) hit
      have hsz1 : w.heap.size + 3 ≤ (wr.iterAt (w.heap.size + 2) s (pos + (Utf8.decode s pos).2)).heap.size := by rw [Lib.iterAt_size]; exact hsz
      by_cases hp : pos < s.size
      · have hnx : ∀ ty, (Instr.next (.pointer (some ⟨w.heap.size + 2, 0, none⟩)) true ty).run Try.prog wr = _ := fun ty => Lib.run_next_any_at wr (w.heap.size + 2) s pos ty hit hp
        rw [runesAt_step s pos hp] at hgo ho hk2 htx
        generalize hpos1 : pos + (Utf8.decode s pos).2 = pos1 at *
        generalize hW : wr.iterAt (w.heap.size + 2) s pos1 = W at *
        generalize hR : ((Utf8.decode s pos).1 : Int) = r at *
        have HPOS := Lib.hid hpos1
        have HW := Lib.hid hW
        have HR := Lib.hid hR
        clear hpos1 hW hR
        simp only [List.length_cons] at ho hk2 htx
        have HGO := Lib.hid hgo
        have HIT := Lib.hid hit1
        have HDIG := Lib.hid hdig
        have hIT0 := Lib.hid hit
        clear hgo hit1 hdig hit hH
        obtain ⟨tk, tx, tn, ta⟩ := t
        have c0 := hH1.tok.cell 0
        have c1 := hH1.tok.cell 1
        have c2 := hH1.tok.cell 2
        have c3 := hH1.tok.cell 3
        cases hg : goesB tk tx r
        all_goals
          have HG := Lib.hid hg
          clear hg
        · have hgo2 := HGO.out
          simp only [tokGo] at hgo2
          rw [if_neg (by rw [HG.out]; decide)] at hgo2
          cases hend : endTok ⟨tk, tx, tn, ta⟩ out with
          | none =>
            have HEND := Lib.hid hend
            rw [hend] at hgo2
            have HGO2 := Lib.hid hgo2
            clear hend hgo2
            go_wp2_with (first
              | (go_at_call 121; refine (goes_c _ _ _ _ _ _).mono ?_; rintro e w1 ⟨rfl, hb1⟩; rw [HG.out]; have hH2 := hH1.below hb1; have d3 := hH2.tok.cell 3)
              | (go_at_call 119; refine (ends_none _ _ _ _ _ _ _ hH2 (by omega) (by omega) (by omega) (by have := hb1.size; omega) HDIG.out HEND.out).mono ?_; rintro e w2 ⟨rfl, hf2⟩))
            rw [Exit.noGoto_ret]
            go_ret3
            have hg := HGO2.out
            unfold TokPost
            rw [← hg]
            exact ⟨_, rfl, Sl.nil _ _ _, (hB1.trans (hb1.mono (by omega))).trans (hf2.below (by have := hb1.size; omega) (by omega))⟩
          | some o =>
            have hol := endTok_length hend
            have HEND := Lib.hid hend
            rw [hend] at hgo2
            dsimp only at hgo2
            by_cases hbl : r = 32 ∨ r = 9
            · rw [if_pos hbl] at hgo2
              have hbl2 : ((r == 32) || (r == 9)) = true := by simpa using hbl
              have HBL := Lib.hid hbl
              have HGO2 := Lib.hid hgo2
              clear hend hgo2 hbl
              go_wp2_with (first
                | (go_at_call 121; refine (goes_c _ _ _ _ _ _).mono ?_; rintro e w1 ⟨rfl, hb1⟩; rw [HG.out]; have hH2 := hH1.below hb1; have d3 := hH2.tok.cell 3)
                | (go_at_call 119; refine (ends_some _ _ _ _ _ _ _ hH2 (by omega) (by omega) (by omega) (by have := hb1.size; omega) HDIG.out (by omega) o HEND.out).mono ?_; rintro e w2 ⟨rfl, ⟨v2, hH3⟩, hf2⟩))
              all_goals
                have hit2 : w2.heap[w.heap.size + 2]? = some (.stringIter s pos1) := by
                  rw [hf2.block _ (by have := hb1.size; omega) (by omega), hb1.block _ (by omega)]; exact HIT.out
                have hB2 : Below w.heap.size w w2 := (hB1.trans (hb1.mono (by omega))).trans (hf2.below (by have := hb1.size; omega) (by omega))
                have hsz2 : w.heap.size + 3 ≤ w2.heap.size := by have := hb1.size; have := hf2.size; omega
                go_roundw
                case rel => exact ⟨⟨Tok.zero, v2, o, pos1, k + 1, rfl, hit2, hH3, hB2, hsz2, fun h => absurd h (by decide), by omega, by omega, by omega, (by show 0 + 4 * _ ≤ 1600; omega), HGO2.out⟩⟩
                case measure =>
                  have hwd := Lib.decode_width_pos s pos hp
                  rw [iterPos_of hIT0.out, iterPos_of hit2]
                  have := HPOS.out
                  omega
            · rw [if_neg hbl] at hgo2
              by_cases hk0 : kindN r = 0
              all_goals
                have hbl2 : ¬ r = 32 := fun h => hbl (.inl h)
                have hbl3 : (r == 9) = false := by rw [beq_eq_false_iff_ne]; exact fun h => hbl (.inr h)
                have hbl4 : (r == 32) = false := by rw [beq_eq_false_iff_ne]; exact hbl2
              · rw [if_pos hk0] at hgo2
                have HGO2 := Lib.hid hgo2
                have HK := Lib.hid hk0
                clear hend hgo2 hbl hk0
                go_wp2_with (first
                  | (go_at_call 121; refine (goes_c _ _ _ _ _ _).mono ?_; rintro e w1 ⟨rfl, hb1⟩; rw [HG.out]; have hH2 := hH1.below hb1; have d3 := hH2.tok.cell 3)
                  | (go_at_call 119; refine (ends_some _ _ _ _ _ _ _ hH2 (by omega) (by omega) (by omega) (by have := hb1.size; omega) HDIG.out (by omega) o HEND.out).mono ?_; rintro e w2 ⟨rfl, ⟨v2, hH3⟩, hf2⟩)
                  | (go_at_call 122; refine (kind_c _ _).mono ?_; rintro e w3 ⟨rfl, hb3⟩; rw [HK.out]; have hH4 := hH3.below hb3; have m0 := hH4.tok.cell 0; have m1 := hH4.tok.cell 1; have m2 := hH4.tok.cell 2; have m3 := hH4.tok.cell 3; have n0 := hH4.tok.free 0; have n1 := hH4.tok.free 1; have n2 := hH4.tok.free 2; have n3 := hH4.tok.free 3))
                rw [Exit.noGoto_ret]
                go_ret3
                have hg := HGO2.out
                unfold TokPost
                rw [← hg]
                refine ⟨_, rfl, Sl.nil _ _ _, ?_⟩
                have hB2 : Below w.heap.size w w2 := (hB1.trans (hb1.mono (by omega))).trans (hf2.below (by have := hb1.size; omega) (by omega))
                exact ((((hB2.trans (hb3.mono hB2.size)).setCell (by simp) _).setCell (by simp) _).setCell (by simp) _).setCell (by simp) _
              · rw [if_neg hk0] at hgo2
                have HGO2 := Lib.hid hgo2
                have hk1' : (kindN r == 0) = false := by simpa using hk0
                have HK := Lib.hid hk0
                clear hend hgo2 hbl hk0
                go_wp2_with (first
                  | (go_at_call 121; refine (goes_c _ _ _ _ _ _).mono ?_; rintro e w1 ⟨rfl, hb1⟩; rw [HG.out]; have hH2 := hH1.below hb1; have d3 := hH2.tok.cell 3)
                  | (go_at_call 119; refine (ends_some _ _ _ _ _ _ _ hH2 (by omega) (by omega) (by omega) (by have := hb1.size; omega) HDIG.out (by omega) o HEND.out).mono ?_; rintro e w2 ⟨rfl, ⟨v2, hH3⟩, hf2⟩)
                  | (go_at_call 122; refine (kind_c _ _).mono ?_; rintro e w3 ⟨rfl, hb3⟩; skip; have hH4 := hH3.below hb3; have m0 := hH4.tok.cell 0; have m1 := hH4.tok.cell 1; have m2 := hH4.tok.cell 2; have m3 := hH4.tok.cell 3; have n0 := hH4.tok.free 0; have n1 := hH4.tok.free 1; have n2 := hH4.tok.free 2; have n3 := hH4.tok.free 3))
                have hes := encode_size r
                have hP := hH4.put (by omega) (by omega) ⟨kindN r, Utf8.encode r, 0, k + 1⟩
                have hB2 : Below w.heap.size w w2 := (hB1.trans (hb1.mono (by omega))).trans (hf2.below (by have := hb1.size; omega) (by omega))
                have hB5 := (((((hB2.trans (hb3.mono hB2.size)).setCell (p := ⟨w.heap.size + 1, 0, none⟩) (by simp) (.int .u8 (kindN r))).setCell (p := ⟨w.heap.size + 1, 1, none⟩) (by simp) (.string (Utf8.encode r))).setCell (p := ⟨w.heap.size + 1, 2, none⟩) (by simp) (.int .i64 0)).setCell (p := ⟨w.heap.size + 1, 3, none⟩) (by simp) (.int .i64 (k + 1)))
                have hit2 : w2.heap[w.heap.size + 2]? = some (.stringIter s pos1) := by
                  rw [hf2.block _ (by have := hb1.size; omega) (by omega), hb1.block _ (by omega)]; exact HIT.out
                have hsz2 : w.heap.size + 3 ≤ w3.heap.size := by have := hb1.size; have := hf2.size; have := hb3.size; omega
                have hit3 : w3.heap[w.heap.size + 2]? = some (.stringIter s pos1) := by
                  rw [hb3.block _ (by have := hb1.size; have := hf2.size; omega)]; exact hit2
                have hit4 : ((((w3.setCell ⟨w.heap.size + 1, 0, none⟩ (.int .u8 (kindN r))).setCell ⟨w.heap.size + 1, 1, none⟩ (.string (Utf8.encode r))).setCell ⟨w.heap.size + 1, 2, none⟩ (.int .i64 0)).setCell ⟨w.heap.size + 1, 3, none⟩ (.int .i64 (k + 1))).heap[w.heap.size + 2]? = some (.stringIter s pos1) := by
                  rw [heap_setCell_other _ _ _ _ (by simp), heap_setCell_other _ _ _ _ (by simp), heap_setCell_other _ _ _ _ (by simp), heap_setCell_other _ _ _ _ (by simp)]; exact hit3
                go_roundw
                case rel => exact ⟨⟨⟨kindN r, Utf8.encode r, 0, k + 1⟩, v2, o, pos1, k + 1, rfl, hit4, hP, hB5, (by simpa [World.setCell] using hsz2), digits_one r, by omega, by omega, by omega, (by show (Utf8.encode r).size + 4 * _ ≤ 1600; omega), HGO2.out⟩⟩
                case measure =>
                  have hwd := Lib.decode_width_pos s pos hp
                  rw [iterPos_of hIT0.out, iterPos_of hit4]
                  have := HPOS.out
                  omega
        · have hes := encode_size r
          go_wp2_with (go_at_call 121; refine (goes_c _ _ _ _ _ _).mono ?_; rintro e w1 ⟨rfl, hb1⟩; rw [HG.out]; have hH2 := hH1.below hb1; have d1 := hH2.tok.cell 1; have f1 := hH2.tok.free 1)
          go_roundw
          case rel =>
            have hgo2 := HGO.out
            simp only [tokGo] at hgo2
            rw [if_pos HG.out] at hgo2
            refine ⟨⟨⟨tk, tx ++ Utf8.encode r, tn, ta⟩, v, out, pos1, k + 1, rfl, ?_, hH2.text (by omega) (by omega) _, ?_, ?_, ?_, by omega, by omega, by omega, ?_, hgo2⟩⟩
            · rw [heap_setCell_other _ _ _ _ (by simp), hb1.block _ (by omega)]; exact HIT.out
            · exact (hB1.trans (hb1.mono (by omega))).setCell (by simp) _
            · have := hb1.size; simp [World.setCell]; omega
            · exact digits_snoc tk tx r HDIG.out HG.out
            · simp only [ByteArray.size_append]; omega
          case measure =>
            have hwd := Lib.decode_width_pos s pos hp
            have hit2 : (w1.setCell ⟨w.heap.size + 1, 1, none⟩ (.string (tx ++ Utf8.encode r))).heap[w.heap.size + 2]? = some (.stringIter s pos1) := by
              rw [heap_setCell_other _ _ _ _ (by simp), hb1.block _ (by omega)]; exact HIT.out
            rw [iterPos_of hIT0.out, iterPos_of hit2]
            have := HPOS.out
            omega
      · have hnx : ∀ ty, (Instr.next (.pointer (some ⟨w.heap.size + 2, 0, none⟩)) true ty).run Try.prog wr = _ := fun ty => Lib.run_next_end_at wr (w.heap.size + 2) s pos ty hit hp
        rw [runesAt_end s pos hp] at hgo ho hk2 htx
        simp only [List.length_nil] at ho hk2 htx
        have HDIG := Lib.hid hdig
        clear hdig hit1 hH1 hB1 hsz1 hit
        obtain ⟨tk, tx, tn, ta⟩ := t
        have d3 := hH.tok.cell 3
        simp only [tokGo] at hgo
        cases hend : endTok ⟨tk, tx, tn, ta⟩ out with
        | none =>
          have HEND := Lib.hid hend
          rw [hend] at hgo
          have HGO2 := Lib.hid hgo
          clear hend hgo
          go_wp2_with (go_at_call 119; refine (ends_none _ _ _ _ _ _ _ hH (by omega) (by omega) (by omega) (by omega) HDIG.out HEND.out).mono ?_; rintro e w2 ⟨rfl, hf2⟩)
          rw [Exit.noGoto_ret]
          go_ret3
          have hg := HGO2.out
          unfold TokPost
          rw [← hg]
          exact ⟨_, rfl, Sl.nil _ _ _, hB.trans (hf2.below (by omega) (by omega))⟩
        | some o =>
          have HEND := Lib.hid hend
          rw [hend] at hgo
          have HGO2 := Lib.hid hgo
          clear hend hgo
          go_wp2_with (go_at_call 119; refine (ends_some _ _ _ _ _ _ _ hH (by omega) (by omega) (by omega) (by omega) HDIG.out (by omega) o HEND.out).mono ?_; rintro e w2 ⟨rfl, ⟨v2, hH3⟩, hf2⟩; have q0 := hH3.row.cell 0)
          rw [Exit.noGoto_ret]
          go_ret3
          have hg := HGO2.out
          unfold TokPost
          rw [← hg]
          exact ⟨_, rfl, Sl.of_owns hH3.own, hB.trans (hf2.below (by omega) (by omega))⟩

end Go.Proofs.Ytfieoehchghiiaa
