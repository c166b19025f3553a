/-
  The walk of the reference's Tokens.
-/
import Derived.Test.YtlkkigpjahlloaaDoorR2
import Derived.Test.YtlkkigpjahlloaaDoorP6
import Derived.Test.YtlkkigpjahlloaaDoorW5
namespace Go.Proofs.YtlkkigpjahlloaaDoor
open Go.RowKit
set_option linter.unusedVariables false

/-- A token of the call's own, and the row. -/
structure Mid (w1 : World) (Bt : Nat) (t : Tok) (v : Value) (out : List Tok) (wr : World) : Prop where
  tok : Blk wr Bt 78 #[.int .u8 t.kind, .string t.text, .int .i64 t.n, .int .i64 t.at_]
  own : wr.ownsRow w1.heap.size 78 4 v out.length (toksCells out)
  below : Below w1.heap.size w1 wr
  lt : w1.heap.size ≤ Bt
  ne : v.ownBlock ≠ some Bt

namespace Mid
variable {w1 wr w' : World} {Bt : Nat} {t : Tok} {v : Value} {out : List Tok}
theorem new (hown : wr.ownsRow w1.heap.size 78 4 v out.length (toksCells out)) (hB : Below w1.heap.size w1 wr) (t : Tok) :
    Mid w1 wr.heap.size t v out (wr.alloc (.cells #[.int .u8 t.kind, .string t.text, .int .i64 t.n, .int .i64 t.at_] 78)) :=
  ⟨Blk.new _ _ _, hown.alloc _, hB.alloc hB.size _, hB.size, fun e => by have := (hown.lt _ e).2; omega⟩
theorem step (h : Mid w1 Bt t v out wr) (hb : Below wr.heap.size wr w') : Mid w1 Bt t v out w' :=
  ⟨h.tok.below hb h.tok.lt, h.own.kept (row := none) ⟨hb.os, hb.tape, hb.output, hb.size, fun i hi _ => hb.block i hi⟩ (by cases hv : v.ownBlock <;> simp), h.below.trans (hb.mono h.below.size), h.lt, h.ne⟩
theorem drew (h : Mid w1 Bt t v out wr) (n : Nat) : Mid w1 Bt t v out (wr.drewN n) := h.step (below_drewN (Below.refl _ _) n)
theorem text (h : Mid w1 Bt t v out wr) (x : ByteArray) : Mid w1 Bt { t with text := x } v out (wr.setCell ⟨Bt, 1, none⟩ (.string x)) :=
  ⟨h.tok.set 1 _, ownsRow_setCell_other h.own (a := ⟨Bt, 1, none⟩) h.ne _, h.below.setCell (p := ⟨Bt, 1, none⟩) h.lt _, h.lt, h.ne⟩
theorem num (h : Mid w1 Bt t v out wr) (x : Int) : Mid w1 Bt { t with n := x } v out (wr.setCell ⟨Bt, 2, none⟩ (.int .i64 x)) :=
  ⟨h.tok.set 2 _, ownsRow_setCell_other h.own (a := ⟨Bt, 2, none⟩) h.ne _, h.below.setCell (p := ⟨Bt, 2, none⟩) h.lt _, h.lt, h.ne⟩
end Mid

/-- Between two tokens. -/
structure RTokRel (s : ByteArray) (w w1 : World) (v i : Value) (wr : World) : Prop where
  ex : ∃ (k : Nat) (out : List Tok), i = .int .i64 k ∧ k ≤ (runes s).length ∧ wr.ownsRow w1.heap.size 78 4 v out.length (toksCells out) ∧ Below w1.heap.size w1 wr ∧
    out.length ≤ k ∧ tokGo Tok.zero ((k : Int) - 1) out ((runes s).drop k) = toks s

set_option maxRecDepth 100000 in
set_option maxHeartbeats 1000000 in
theorem rTokens_c (s : ByteArray) (w : World) : Calls Tryd.prog 29 #[.string s] w (TokPost s w) := by
  by_cases h400 : 400 < s.size
  · have h4 : (400 : Int) < (s.size : Int) := by omega
    have hP : TokPost s w (.returned (.tuple #[.slice none 0 0, .int .i64 0, .int .i64 3])) w := by
      unfold TokPost toks
      rw [if_pos h400]
      exact ⟨_, rfl, Sl.nil _ _ _, Below.refl _ _⟩
    have HP := Lib.hid hP
    clear hP
    go_enter Tryd.func29, Tryd.ntmps29
    go_wp2
    go_ret3
    exact HP.out
  · have h4 : ¬ (400 : Int) < (s.size : Int) := by omega
    have hn400 : (runes s).length ≤ 400 := by have := runesAt_length s 0; unfold runes; omega
    have hst : tokGo Tok.zero (-1) [] (runes s) = toks s := by unfold toks; rw [if_neg h400]
    by_cases h0 : (runes s).length = 0
    · have hP : ∀ w1, Below w.heap.size w w1 → TokPost s w (.returned (.tuple #[.slice none 0 0, .int .i64 0, .int .i64 0])) w1 := by
        intro w1 hb
        rw [List.eq_nil_of_length_eq_zero h0] at hst
        unfold TokPost
        rw [← hst]
        exact ⟨_, rfl, Sl.nil _ _ _, hb⟩
      have HP := Lib.hid hP
      have H0 := Lib.hid h0
      clear hP hst hn400 h0
      go_enter Tryd.func29, Tryd.ntmps29
      go_wp2_with (go_at_call 30; refine (Runes_c _ _ (by omega)).mono ?_; rintro e w1 ⟨v1, v2, rfl, hS, hB⟩; rw [H0.out] at hS; obtain ⟨_, a, cap, rfl, _⟩ := hS)
      refine wp_loop_rounds 1 ?_
      rw [rounds_succ]
      go_wp2
      go_ret3
      exact HP.out _ hB
    · have HST := Lib.hid hst
      obtain ⟨n, hn⟩ : ∃ n, (runes s).length = n := ⟨_, rfl⟩
      have HN := Lib.hid hn
      rw [hn] at hn400
      have h0n : 0 < n := by omega
      clear hst h0 hn
      go_enter Tryd.func29, Tryd.ntmps29
      go_wp2_with (go_at_call 30; refine (Runes_c _ _ (by omega)).mono ?_; rintro e w1 ⟨v1, v2, rfl, hS, hB⟩; rw [HN.out] at hS; obtain ⟨b, off, cap, rfl, hb, _⟩ := hS.int 0 h0n; have HS := Lib.hid hS; clear hS)
      have HC : Hid (∀ X, Below w1.heap.size w1 X → ∀ j, j < n → ∃ hj : j < (runes s).length, X.cell? ⟨b, off + j, none⟩ = some (.int .i32 ((runes s)[j]'hj))) := by
        intro X hX j hj
        obtain ⟨b', off', cap', e', hb', hl', ck⟩ := HS.out.int j hj
        simp only [Value.slice.injEq, Option.some.injEq, Addr.mk.injEq, true_and, and_true] at e'
        obtain ⟨⟨rfl, rfl⟩, rfl⟩ := e'
        exact ⟨hl', (hX.cell (p := ⟨b, off + j, none⟩) hb').trans ck⟩
      go_loopw [7, 8] (fun v i wr => RTokRel s w w1 v i wr) (fun _ i _ => n - (intOf i).toNat)
      case atStart => exact ⟨⟨0, [], rfl, Nat.zero_le _, World.ownsRow_nil _ _ _ _, Below.refl _ _, Nat.le_refl _, HST.out⟩⟩
      case round =>
        obtain ⟨k, out, rfl, hk, hown, hB1, hol, hgo⟩ := hrel.ex
        rw [HN.out] at hk
        have HGO := Lib.hid hgo
        clear hgo hrel
        by_cases hlt : k < n
        · obtain ⟨hk', ck⟩ := HC.out wr hB1 k hlt
          have hgo := HGO.out
          rw [List.drop_eq_getElem_cons hk', tokGo_zero] at hgo
          generalize hx : (runes s)[k] = x at *
          have HX := Lib.hid hx
          clear hx
          by_cases hbl : x = 32 ∨ x = 9
          · have hw4 : whatN x = 4 := by rw [what_kind, if_pos hbl]
            rw [if_pos hbl] at hgo
            have HGO2 := Lib.hid hgo
            have HW := Lib.hid hw4
            clear hgo hw4 hbl
            go_wp2_with (go_at_call 47; refine (what_c _ _).mono ?_; rintro e w2 ⟨rfl, hb2⟩; rw [HW.out])
            go_roundw
            case rel =>
              refine ⟨⟨k + 1, out, by go_num, by have := HN.out; omega, hown.kept (row := none) ⟨hb2.os, hb2.tape, hb2.output, hb2.size, fun i hi _ => hb2.block i hi⟩ (by cases hv : u7.ownBlock <;> simp), hB1.trans (hb2.mono hB1.size), by omega, ?_⟩⟩
              rw [← HGO2.out]
              congr 1
              omega
            case measure => simp [intOf]; omega
          · rw [if_neg hbl] at hgo
            have hwk : whatN x = kindN x := by rw [what_kind, if_neg hbl]
            have HB := Lib.hid hbl
            clear hbl
            by_cases hk0 : kindN x = 0
            · rw [if_pos hk0] at hgo
              rw [hk0] at hwk
              have HGO2 := Lib.hid hgo
              have HW := Lib.hid hwk
              clear hgo hwk hk0
              go_wp2_with (go_at_call 47; refine (what_c _ _).mono ?_; rintro e w2 ⟨rfl, hb2⟩; rw [HW.out])
              go_ret3
              unfold TokPost
              rw [← HGO2.out, show ((k : Int) - 1 + 1) = k by omega]
              exact ⟨_, rfl, Sl.nil _ _ _, hB.trans ((hB1.mono hB.size).trans (hb2.mono (Nat.le_trans hB.size hB1.size)))⟩
            · rw [if_neg hk0, show ((k : Int) - 1 + 1) = k by omega] at hgo
              have HGO2 := Lib.hid hgo
              clear hgo
              have hK123 : kindN x = 1 ∨ kindN x = 2 ∨ kindN x = 3 := by
                unfold kindN at hk0 ⊢
                split
                · exact .inr (.inl rfl)
                · split
                  · exact .inr (.inr rfl)
                  · split
                    · exact .inl rfl
                    · rename_i h1 h2 h3; rw [if_neg h1, if_neg h2, if_neg h3] at hk0; exact absurd rfl hk0
              obtain ⟨K, hKx⟩ : ∃ K, kindN x = K := ⟨_, rfl⟩
              rw [hKx] at hwk HGO2 hK123
              have HW := Lib.hid hwk
              have HK := Lib.hid hKx
              clear hwk hKx hk0
              have hKn : (K == 0) = false ∧ (K == 4) = false := by rcases hK123 with rfl | rfl | rfl <;> exact ⟨rfl, rfl⟩
              obtain ⟨hKn0, hKn4⟩ := hKn
              have hKw : K % 256 = K := by rcases hK123 with rfl | rfl | rfl <;> rfl
              have HK3 := Lib.hid hK123
              clear hK123
              go_upto_region 13 with (go_at_call 47; refine (what_c _ _).mono ?_; rintro e w2 ⟨rfl, hb2⟩; rw [HW.out])
              have hM := Mid.new (hown.kept (row := none) ⟨hb2.os, hb2.tape, hb2.output, hb2.size, fun i hi _ => hb2.block i hi⟩ (by cases hv : u7.ownBlock <;> simp)) (hB1.trans (hb2.mono hB1.size)) ⟨K, { data := #[] }, 0, k⟩
              dsimp only at hM
              generalize World.alloc w2 _ = W at *
              obtain ⟨Bt, hBt⟩ : ∃ Bt, Bt = w2.heap.size := ⟨_, rfl⟩
              rw [← hBt] at hM ⊢
              clear hBt hb2 ck hB1 hown
              go_upto_if 47 with fail
              go_cut [11] (fun s11 wx => ∃ E : Nat, s11 = .int .i64 E ∧ k < E ∧ E ≤ n ∧ Mid w1 Bt ⟨K, { data := #[] }, 0, k⟩ u7 out wx ∧ RunFact s k K E out)
              case first =>
                obtain ⟨_, ck⟩ := HC.out W hM.below k hlt
                rw [HX.out] at ck
                by_cases hK3 : K = 3
                · have hK33 : (K == 3) = true := by rw [hK3]; rfl
                  have hK3u := Lib.hid hK3
                  have hHGO3 : tokGo ⟨3, Utf8.encode x, 0, k⟩ k out ((runes s).drop (k + 1)) = toks s := by have := HGO2.out; rw [hK3] at this; exact this
                  have HGO3 := Lib.hid hHGO3
                  have hKx3 : kindN x = 3 := by rw [HK.out, hK3]
                  have HKX3 := Lib.hid hKx3
                  clear hK3 hHGO3 hKx3
                  by_cases hx3 : x = 33 ∨ x = 60
                  · by_cases hlt2 : k + 1 < n
                    · obtain ⟨hl2, c1⟩ := HC.out W hM.below (k + 1) hlt2
                      have hlt3 : (k : Int) + 1 < n := by omega
                      generalize hy : (runes s)[k + 1] = y at *
                      have HY := Lib.hid hy
                      clear hy
                      rcases hx3 with hx3 | hx3
                      all_goals
                        subst hx3
                        go_wp2_with fail
                      all_goals
                        go_meet
                        first
                          | (have hy1 : (y == 61) = true := by assumption
                             have hy2 : y = 61 := by simpa using hy1
                             refine ⟨k + 2, by go_num, by omega, by omega, hM, ?_⟩
                             rw [hK3u.out]
                             exact runFact_sign2 s k _ out hl2 HX.out HKX3.out HGO3.out (by omega) (by rw [HY.out, hy2]))
                          | (have hy1 : (y == 61) = false := by assumption
                             have hy2 : y ≠ 61 := by simpa using hy1
                             refine ⟨k + 1, by go_num, by omega, by omega, hM, ?_⟩
                             rw [hK3u.out]
                             refine runFact_sign1 s k _ out hk' HX.out HKX3.out HGO3.out ?_
                             rintro ⟨_, h61⟩
                             rw [List.head?_drop, List.getElem?_eq_getElem hl2, HY.out] at h61
                             exact hy2 (Option.some.inj h61))
                    · have hlt3 : ¬ (k : Int) + 1 < n := by omega
                      have HNO : Hid (¬ ((x = 33 ∨ x = 60) ∧ ((runes s).drop (k + 1)).head? = some 61)) := by
                        rintro ⟨_, h61⟩
                        rw [List.drop_of_length_le (by have := HN.out; omega)] at h61
                        cases h61
                      rcases hx3 with hx3 | hx3
                      all_goals
                        subst hx3
                        go_wp2_with fail
                      all_goals
                        go_meet
                        refine ⟨k + 1, by go_num, by omega, by omega, hM, ?_⟩
                        rw [hK3u.out]
                        exact runFact_sign1 s k _ out hk' HX.out HKX3.out HGO3.out (fun h => HNO.out (by first | exact h | simpa using h))
                  · have hx33 : (x == 33) = false := by rw [beq_eq_false_iff_ne]; omega
                    have hx60 : (x == 60) = false := by rw [beq_eq_false_iff_ne]; omega
                    have HNO : Hid (¬ ((x = 33 ∨ x = 60) ∧ ((runes s).drop (k + 1)).head? = some 61)) := fun h => hx3 h.1
                    clear hx3
                    go_wp2_with fail
                    go_meet
                    refine ⟨k + 1, by go_num, by omega, by omega, hM, ?_⟩
                    rw [hK3u.out]
                    exact runFact_sign1 s k _ out hk' HX.out HKX3.out HGO3.out (fun h => HNO.out (by first | exact h | simpa using h))
                · have hK13 : (K == 3) = false := by simpa using hK3
                  have hKne : K = 1 ∨ K = 2 := by have := HK3.out; omega
                  have HKN := Lib.hid hKne
                  clear hK3 hKne
                  go_wp2_with fail
                  rw [hK13]
                  go_loopw [11] (fun v wx => ∃ j : Nat, v = .int .i64 j ∧ k < j ∧ j ≤ n ∧ Mid w1 Bt ⟨K, { data := #[] }, 0, k⟩ u7 out wx ∧ (∀ r ∈ ((runes s).drop (k + 1)).take (j - (k + 1)), kindN r = K)) (fun v _ => n - (intOf v).toNat)
                  case atStart => exact ⟨k + 1, by go_num, by omega, by omega, hM, by intro r hr; rw [Nat.sub_self] at hr; simp at hr⟩
                  case round =>
                    obtain ⟨j, rfl, hkj, hjn, hMj, hrun⟩ := hrel
                    by_cases hjl : j < n
                    · obtain ⟨hj', cj⟩ := HC.out wr hMj.below j hjl
                      have HRUN := Lib.hid hrun
                      generalize hy : (runes s)[j] = y at *
                      have HY := Lib.hid hy
                      clear hrun hy
                      go_wp2_with (go_at_call 47; refine (what_c _ _).mono ?_; rintro e w3 ⟨rfl, hb3⟩)
                      · have hw1 : (whatN y == K) = true := by assumption
                        have hrun2 : ∀ r ∈ ((runes s).drop (k + 1)).take (j + 1 - (k + 1)), kindN r = K := by
                          intro r hr
                          rw [show j + 1 - (k + 1) = (j - (k + 1)) + 1 by omega, List.take_succ_eq_append_getElem (by rw [List.length_drop]; omega)] at hr
                          rcases List.mem_append.1 hr with hr | hr
                          · exact HRUN.out r hr
                          · simp only [List.getElem_drop, List.mem_singleton] at hr
                            have e : k + 1 + (j - (k + 1)) = j := by omega
                            simp only [e] at hr
                            rw [hr, HY.out]
                            have hw2 : whatN y = K := by simpa using hw1
                            rw [what_kind] at hw2
                            split at hw2
                            · have := HKN.out; omega
                            · exact hw2
                        go_roundw
                        case rel => exact ⟨j + 1, by go_num, by omega, by omega, hMj.step hb3, hrun2⟩
                        case measure => simp [intOf]; omega
                      · have hw1 : (whatN y == K) = false := by assumption
                        go_meet
                        refine ⟨j, rfl, hkj, hjn, hMj.step hb3, runFact_run s k K x j out HKN.out hk' HX.out HK.out HGO2.out hkj (by omega) HRUN.out ?_⟩
                        intro r hr
                        rw [List.head?_drop, List.getElem?_eq_getElem hj', HY.out] at hr
                        simp only [Option.some.injEq] at hr
                        subst hr
                        intro hk2
                        have hw2 : whatN y ≠ K := by simpa using hw1
                        rw [what_kind] at hw2
                        split at hw2
                        · rename_i hbl
                          rw [kind_blank y hbl] at hk2
                          have := HKN.out
                          omega
                        · exact hw2 hk2
                    · have HRUN := Lib.hid hrun
                      clear hrun
                      have HNN := HN.out
                      go_wp2_with fail
                      go_meet
                      refine ⟨j, rfl, hkj, hjn, hMj, runFact_run s k K x j out HKN.out hk' HX.out HK.out HGO2.out hkj (by omega) HRUN.out ?_⟩
                      intro r hr
                      rw [List.head?_drop, List.getElem?_eq_none (by omega)] at hr
                      cases hr
              case rest =>
                obtain ⟨E, rfl, hkE, hEn, hM2, hRF⟩ := hcut
                have HRF := Lib.hid hRF
                clear hRF hM
                go_upto_if 91 with fail
                go_cut [] (fun wx => ∃ t : Tok, Mid w1 Bt t u7 out wx ∧ tokGo Tok.zero ((E : Int) - 1) (out ++ [t]) ((runes s).drop E) = toks s)
                case first =>
                  by_cases hK2 : K = 2
                  · have hK22 : (K == 2) = true := by rw [hK2]; rfl
                    have hRF := HRF.out
                    unfold RunFact at hRF
                    rw [if_pos hK2] at hRF
                    have HDIG := Lib.hid (hRF.1 hK2)
                    have HNUM := Lib.hid hRF.2
                    have hMM := hM2
                    rw [hK2] at hMM
                    clear hRF hK2
                    go_wp2_with fail
                    rw [hK22]
                    go_loop [12, 13] (fun v i => ∃ (j : Nat) (m : Int), i = .int .i64 j ∧ v = .int .u64 m ∧ k ≤ j ∧ j ≤ E ∧ 0 ≤ m ∧ m ≤ 9223372036854775807 ∧ numGo m (((runes s).drop j).take (E - j)) = numGo 0 (((runes s).drop k).take (E - k))) (fun _ i => E - (intOf i).toNat)
                    case atStart => exact ⟨k, 0, rfl, rfl, Nat.le_refl _, by omega, by omega, by omega, rfl⟩
                    case round =>
                      obtain ⟨j, m, rfl, rfl, hkj, hjE, hm0, hm1, hnum⟩ := hrel
                      by_cases hjl : j < E
                      · obtain ⟨hj', cj⟩ := HC.out wc hM2.below j (by omega)
                        have hy := HDIG.out ((runes s)[j]) (by
                          rw [List.mem_take_iff_getElem]
                          refine ⟨j - k, by rw [List.length_drop]; omega, ?_⟩
                          rw [List.getElem_drop]
                          congr 1
                          omega)
                        rw [take_cut (runes s) j E hjl hj'] at hnum
                        generalize (runes s)[j] = y at *
                        obtain ⟨hy1, hy2⟩ := hy
                        simp only [numGo] at hnum
                        have HNU := Lib.hid hnum
                        clear hnum
                        go_wp2_with fail
                        · go_ret3
                          have hg := HRF.out
                          unfold RunFact at hg
                          have hK2 : K = 2 := by simpa using hK22
                          rw [if_pos hK2, ← HNU.out, if_pos (by assumption)] at hg
                          unfold TokPost
                          rw [← hg.2]
                          exact ⟨_, rfl, Sl.nil _ _ _, hB.trans (hM2.below.mono hB.size)⟩
                        · have hle : m ≤ (9223372036854775807 - (y - 48)) / 10 := by assumption
                          go_round
                          case rel => exact ⟨j + 1, 10 * m + (y - 48), by go_num, rfl, by omega, by omega, by omega, by omega, by rw [← HNU.out, if_neg (by omega)]⟩
                          case measure => simp [intOf]; omega
                      · have hjE2 : j = E := by omega
                        subst hjE2
                        rw [Nat.sub_self, List.take_zero] at hnum
                        simp only [numGo] at hnum
                        have HNU := Lib.hid hnum
                        clear hnum
                        have e0 := hMM.tok.cell 2
                        have e1 := hMM.tok.free 2
                        have HMM := Lib.hid (hMM.num m)
                        clear hMM
                        go_wp2_with fail
                        go_meet
                        refine ⟨_, HMM.out, ?_⟩
                        have hg := HRF.out
                        unfold RunFact at hg
                        have hK2 : K = 2 := by simpa using hK22
                        rw [if_pos hK2, ← HNU.out] at hg
                        exact hg.2
                  · have hK22 : (K == 2) = false := by simpa using hK2
                    have hRF := HRF.out
                    unfold RunFact at hRF
                    rw [if_neg hK2] at hRF
                    have HTX := Lib.hid hRF.2
                    clear hRF hK2
                    go_wp2_with fail
                    rw [hK22]
                    go_loopw [15] (fun i wx => ∃ j : Nat, i = .int .i64 j ∧ k ≤ j ∧ j ≤ E ∧ Mid w1 Bt ⟨K, encAll (((runes s).drop k).take (j - k)), 0, k⟩ u7 out wx) (fun i _ => E - (intOf i).toNat)
                    case atStart => exact ⟨k, rfl, Nat.le_refl _, by omega, by rw [Nat.sub_self, List.take_zero]; exact hM2⟩
                    case round =>
                      obtain ⟨j, rfl, hkj, hjE, hMj⟩ := hrel
                      by_cases hjl : j < E
                      · obtain ⟨hj', cj⟩ := HC.out wr hMj.below j (by omega)
                        have e1 := hMj.tok.cell 1
                        have e2 := hMj.tok.free 1
                        have hes := encode_size ((runes s)[j])
                        have htx : (encAll (((runes s).drop k).take (j - k))).size ≤ 1600 := by
                          have h1 := encAll_size (((runes s).drop k).take (j - k))
                          have h2 : (((runes s).drop k).take (j - k)).length ≤ j - k := List.length_take_le _ _
                          omega
                        have hsn : ((runes s).drop k).take (j + 1 - k) = ((runes s).drop k).take (j - k) ++ [(runes s)[j]] := by
                          rw [show j + 1 - k = (j - k) + 1 by omega, List.take_succ_eq_append_getElem (by rw [List.length_drop]; omega), List.getElem_drop]
                          congr 3
                          omega
                        have HSN := Lib.hid hsn
                        clear hsn
                        generalize (runes s)[j] = y at *
                        generalize hT : encAll (((runes s).drop k).take (j - k)) = T at *
                        have HT := Lib.hid hT
                        clear hT
                        go_wp2_with fail
                        go_region
                        go_wp2_with fail
                        go_roundw
                        case rel =>
                          refine ⟨j + 1, by go_num, by omega, by omega, ?_⟩
                          have hm := (hMj.text (T ++ Utf8.encode y)).drew 1
                          rw [HSN.out, encAll_snoc, HT.out]
                          exact hm
                        case measure => simp [intOf]; omega
                      · have hjE2 : j = E := by omega
                        subst hjE2
                        go_wp2_with fail
                        go_meet
                        exact ⟨_, hMj, HTX.out⟩
                case rest =>
                  obtain ⟨t, hM3, hfin⟩ := hcut
                  have HFIN := Lib.hid hfin
                  clear hfin
                  obtain ⟨i0, hi, hz0, hz1, hz2⟩ := info_parts info_tok
                  obtain ⟨tk, tx, tn, ta⟩ := t
                  have d0 := hM3.tok.cell 0
                  have d1 := hM3.tok.cell 1
                  have d2 := hM3.tok.cell 2
                  have d3 := hM3.tok.cell 3
                  have hcell := cell_four_new wc (.int .u8 tk) (.string tx) (.int .i64 tn) (.int .i64 ta)
                  go_wp2_with (at_builtin; refine wpList_append_own _ rfl _ _ 50 rfl w1.heap.size 78 i0 Tok.zero.agg 4 40 Tryd.underlying50 hi hz0 hz1 hz2 rfl (by decide) u7 out.length (toksCells out) rfl (hM3.own.alloc _) ⟨wc.heap.size, 0, none⟩ 1 1 [.int .u8 tk, .string tx, .int .i64 tn, .int .i64 ta] rfl rfl (hcell _) (by simp [Value.oneCell']) (by unfold maxLen; omega) (by omega) (by have := hM3.below.size; simp; omega) ?_; intro v' w3 hown3 hgrow3 _)
                  go_roundw
                  case rel =>
                    refine ⟨⟨E, out ++ [⟨tk, tx, tn, ta⟩], rfl, by have := HN.out; omega, ?_, ?_, by simp; omega, HFIN.out⟩⟩
                    · rw [List.length_append, toksCells_snoc]; exact hown3
                    · exact (hM3.below.alloc hM3.below.size _).grown hgrow3 (by have := hM3.below.size; simp; omega) (fun i hi => (hM3.own.lt i hi).1)
                  case measure => simp [intOf]; omega
        · have e1 : (runes s).drop k = [] := List.drop_of_length_le (by have := HN.out; omega)
          have hgo := HGO.out
          rw [e1] at hgo
          simp only [tokGo, endTok_zero] at hgo
          have HGO2 := Lib.hid hgo
          clear hgo e1
          go_wp2
          go_ret3
          unfold TokPost
          rw [← HGO2.out]
          exact ⟨_, rfl, Sl.of_owns hown, hB.trans (hB1.mono hB.size)⟩

end Go.Proofs.YtlkkigpjahlloaaDoor
