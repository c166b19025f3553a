/-
  What pack.Take tells of a job's bytes (plain); the walks of law14's two and works.
-/
import Derived.Test.YtfieoehchghiiaaC9
import Derived.Test.YtfieoehchghiiaaC3
import Derived.Test.YtfieoehchghiiaaJ7
import Derived.Deep.RegionHeld3
namespace Go.Proofs.Ytfieoehchghiiaa
open Go.RowKit
set_option linter.unusedVariables false
set_option linter.unusedSimpArgs false

mutual
theorem Ex.same_refl : ∀ x : Ex, x.sameB x = true
  | .mk o n l => by simp only [Ex.sameB]; rw [Exs.same_refl l]; simp
theorem Exs.same_refl : ∀ l : List Ex, Exs.sameB l l = true
  | [] => rfl
  | x :: l => by simp only [Exs.sameB]; rw [Ex.same_refl x, Exs.same_refl l]; rfl
end
theorem Nd.same_refl (x : Nd) : x.sameB x = true := by
  unfold Nd.sameB
  rw [Ex.same_refl, (intsB_iff _ _).2 rfl]
  simp
theorem Nds.same_refl : ∀ l : List Nd, Nds.sameB l l = true
  | [] => rfl
  | x :: l => by simp only [Nds.sameB]; rw [Nd.same_refl x, Nds.same_refl l]; rfl
theorem Jb.same_refl (x : Jb) : x.sameB x = true := by
  unfold Jb.sameB
  rw [Nds.same_refl]
  simp

theorem fit_node (d : Nd) (k : Nat) (hok : d.ok) (h : nodeB d (k : Int) = true) : NdFit d := by
  have h1 : nameB d.uid = true := by
    unfold nodeB at h
    simp only [Bool.and_eq_true] at h
    exact h.1
  have h2 := (nodeB_in _ _ h).1
  have h3 : d.uid.size ≤ 65536 := Nat.le_trans (name_size h1) (by decide)
  have h4 : d.ins.length ≤ 12 := Nat.le_trans h2 (by decide)
  refine ⟨h3, h4, ?_, hok⟩
  unfold nodeB at h
  simp only [Bool.and_eq_true] at h
  have hx := h.2.2.2.2.2.2.2.2.2
  cases ht : (rTy d.kind == 0)
  · rw [ht, cond_false] at hx
    unfold Ex.isB at hx
    have hx := (of_decide_eq_true hx).1
    unfold Ex.typ at hx
    by_cases hm : d.x.mayT = true
    · have hm' : mayB 16 d.x = true := hm
      exact fit_of_may 16 d.x hm'
    · rw [if_neg hm] at hx
      exact absurd hx (by decide)
  · rw [ht, cond_true] at hx
    have : d.x.args = [] := by
      rw [Ex.sameB_eq] at hx
      simp only [Bool.and_eq_true] at hx
      have h3 := hx.2.2
      cases hl : d.x.args with
      | nil => rfl
      | cons y l => rw [hl] at h3; exact absurd h3 (by simp [Exs.sameB, Ex.args])
    exact ⟨by rw [this]; simp, by rw [this]; simp⟩
theorem good_fit {j : Jb} (hok : j.ok) (h : j.may.2 = 0) : ∀ d ∈ j.nodes, NdFit d := by
  intro d hd
  obtain ⟨i, hi, rfl⟩ := List.mem_iff_getElem.1 hd
  exact fit_node _ _ (hok.2.2 _ hd) ((may_good j h).node i hi)
theorem takeJ_put {j : Jb} (hok : j.ok) (h : j.may.2 = 0) : takeJ (bstr j.by) = (j, 0) := by
  have e := (jb_rds j hok (may_good j h).n2 (good_fit hok h)).1 []
  rw [List.append_nil] at e
  unfold takeJ
  dsimp only
  rw [e]
  dsimp only
  rw [if_pos h, if_pos (bstr_nil_size.2 rfl)]
  rfl
theorem takeJ_short {j : Jb} (hok : j.ok) (h : j.may.2 = 0) (k : Nat) (hk : k < j.by.length) : (takeJ (bstr (j.by.take k))).2 = 20 := by
  have e := (jb_rds j hok (may_good j h).n2 (good_fit hok h)).2 k hk
  unfold takeJ
  dsimp only
  generalize Rd.jb (bstr (j.by.take k)) = r at *
  have hne : r.2.e ≠ 0 := by rw [e]; decide
  have h1 : ∀ why, r.2.fail why = r.2 := Rd.fail_of hne
  have e1 : (if r.2.s.size = 0 then r.2 else r.2.fail 2) = r.2 := by rw [h1]; split <;> rfl
  rw [e1]
  have e2 : (if r.1.may.2 = 0 then r.2 else r.2.fail 2) = r.2 := by rw [h1]; split <;> rfl
  rw [e2, if_neg hne, e]
theorem takeJ_more {j : Jb} (hok : j.ok) (h : j.may.2 = 0) (more : ByteArray) (hm : more.size ≠ 0) : (takeJ (bstr j.by ++ more)).2 ≠ 0 := by
  have e := (jb_rds j hok (may_good j h).n2 (good_fit hok h)).1 more.data.toList
  rw [← bstr_app, bstr_of] at e
  unfold takeJ
  dsimp only
  rw [e]
  dsimp only
  rw [if_neg hm, if_pos h, if_neg (fail_pos (by decide))]
  exact fail_pos (by decide)
theorem by_len {j : Jb} (hok : j.ok) (h : j.may.2 = 0) : j.by.length ≤ 1000000 := by
  obtain ⟨h1, h2, h3, h4⟩ := good_small hok h
  have h5 := nodesBy_len j.nodes h1 hok.2.2
  have h6 : (putL [j.par, (j.nodes.length : Int)]).length ≤ 20 := by
    refine putL_len [j.par, (j.nodes.length : Int)] ?_
    intro z hz
    simp only [List.mem_cons, List.not_mem_nil, or_false] at hz
    rcases hz with rfl | rfl <;> omega
  unfold Jb.by
  rw [List.length_append]
  omega
theorem putR_good {j : Jb} (h : j.may.2 = 0) : j.putR = (j.by, 0) := by unfold Jb.putR; rw [if_pos h]
theorem putR_bad {j : Jb} (h : ¬ j.may.2 = 0) : j.putR = ([], 2) := by unfold Jb.putR; rw [if_neg h]

def ptwoJ : Jb := ⟨1, [⟨{ data := #[115] }, 1, [], .mk 0 0 [], 0⟩, ⟨{ data := #[116] }, 9, [0], .mk 0 0 [], 0⟩]⟩
theorem ptwo_may : ptwoJ.may = (0, 0) := by kernel_rfl
theorem ptwo_ok : ptwoJ.ok := by
  refine ⟨by decide, by decide, fun d hd => ?_⟩
  have hd' : d = ⟨{ data := #[115] }, 1, [], .mk 0 0 [], 0⟩ ∨ d = ⟨{ data := #[116] }, 9, [0], .mk 0 0 [], 0⟩ := by simpa [ptwoJ] using hd
  rcases hd' with rfl | rfl
  · exact ⟨by decide, by decide, by simp, ⟨by decide, by decide, by decide, by decide, trivial⟩, by decide, by decide⟩
  · exact ⟨by decide, by decide, by simp, ⟨by decide, by decide, by decide, by decide, trivial⟩, by decide, by decide⟩
theorem putN_small {n : Int} (h : zig n < 128) : putN n = [UInt8.ofNat (zig n)] := vby_lt h
theorem ptwo_by : ptwoJ.by.length = 19 := by
  have h0 : putN 0 = [0] := putN_small (by decide)
  have h1 : putN 1 = [2] := putN_small (by decide)
  have h2 : putN 2 = [4] := putN_small (by decide)
  have h9 : putN 9 = [18] := putN_small (by decide)
  have hs : ∀ b : UInt8, txtL { data := #[b] } = [2, b] := fun b => by
    show putN (1 : Int) ++ [b] = _
    rw [h1]; rfl
  simp [Jb.by, ptwoJ, nodesBy, Nd.by, putL, Ex.by, Exs.by, hs, h0, h1, h2, h9]

/-- Where the job of 'two' lies. -/
structure Two (w : World) (b bt : Nat) : Prop where
  nodes : Blk w b 37 #[.string { data := #[115] }, .int .u8 1, .slice none 0 0, .int .u8 0, .int .i64 0, .slice none 0 0, .int .i64 0,
    .string { data := #[116] }, .int .u8 9, .slice (some ⟨bt, 0, none⟩) 1 1, .int .u8 0, .int .i64 0, .slice none 0 0, .int .i64 0]
  t : Blk w bt 3 #[.int .i64 0]
theorem Sl.oneC {w : World} {b : Nat} {t : TypeId} {x : Value} (h : Blk w b t #[x]) : Sl w w.heap.size 1 (.slice (some ⟨b, 0, none⟩) 1 1) 1 [x] :=
  ⟨rfl, some ⟨b, 0, none⟩, 1, rfl, Nat.le_refl _, by decide, .inr ⟨b, 0, rfl, h.lt, fun j hj => by rw [Nat.zero_add, h.cell j]; simp⟩⟩
theorem Two.at_ {w : World} {b bt : Nat} (h : Two w b bt) : JbAt w w.heap.size (.agg #[.int .i64 1, .slice (some ⟨b, 0, none⟩) 2 2]) ptwoJ := by
  refine ⟨_, rfl, some ⟨b, 0, none⟩, 2, rfl, Nat.le_refl _, by decide, .inr ⟨b, 0, rfl, h.nodes.lt, fun j hj => ?_⟩⟩
  have g := fun j => h.nodes.cell j
  match j, hj with
  | 0, _ => exact ⟨(show (1 : Nat) ≤ maxLen by decide), .slice none 0 0, .slice none 0 0, g 0, g 1, g 2, g 3, g 4, g 5, g 6, Sl.nil _ _ _, .nil _ _ (Nat.zero_le _)⟩
  | 1, _ => exact ⟨(show (1 : Nat) ≤ maxLen by decide), .slice (some ⟨bt, 0, none⟩) 1 1, .slice none 0 0, g 7, g 8, g 9, g 10, g 11, g 12, g 13, Sl.oneC h.t, .nil _ _ (Nat.zero_le _)⟩

set_option maxHeartbeats 1000000 in
theorem two_c (w : World) : Calls Try.prog 54 #[] w fun e w' => ∃ b bt, e = .returned (.agg #[.int .i64 1, .slice (some ⟨b, 0, none⟩) 2 2]) ∧ Two w' b bt ∧ Below w.heap.size w w' := by
  go_enter Try.func54, Try.ntmps54
  go_wp2_with fail
  have h0 := Blk.new w #[.int .i64 1, .slice (some ⟨w.heap.size + 1 + 1, 0, none⟩) 2 2] 24
  refine bodyPost_ret (v := .agg #[.int .i64 1, .slice (some ⟨w.heap.size + 1 + 1, 0, none⟩) 2 2]) (results_cell_row rfl _ _ w.heap.size 24 _ (0, 0) _ rfl ((h0.alloc _).alloc _) Try.underlying24 rfl ?_) rfl ⟨_, _, rfl, ⟨Blk.new_at _ _ _ (by simp), (Blk.new_at _ _ _ (by simp)).alloc _⟩, ?_⟩
  · as_aux_lemma => kernel_rfl
  · exact (((Below.refl _ _).alloc (Nat.le_refl _) _).alloc (by simp) _).alloc (by simp; omega) _

set_option maxHeartbeats 2000000 in
theorem pworks_c (w : World) : Calls Try.prog 19 #[] w fun e w' => e = .returned (.bool true) ∧ Below w.heap.size w w' := by
  have HPR := Lib.hid (putR_good (j := ptwoJ) (by rw [ptwo_may]))
  have HTJ := Lib.hid (takeJ_put ptwo_ok (by rw [ptwo_may]))
  have hbz : (bstr ptwoJ.by).size = 19 := by rw [bstr_size]; exact ptwo_by
  go_enter Try.func19, Try.ntmps19
  go_wp2_with fail
  refine (two_c w).mono ?_
  rintro e w1 ⟨b, bt, rfl, h1, hb1⟩
  go_wp2_with fail
  refine (PackPut_c ptwoJ ptwo_ok _ _ w1 h1.at_ (Nat.le_refl _)).mono ?_
  rintro e w2 ⟨rfl, hb2⟩
  rw [HPR.out]
  dsimp only
  replace hb2 := hb1.trans (hb2.mono hb1.size)
  clear hb1 h1
  go_wp2_with fail
  refine (packTake_c (bstr ptwoJ.by) (by omega) w2).mono ?_
  rintro e w3 ⟨v, rfl, hv, hb3⟩
  rw [HTJ.out] at hv ⊢
  dsimp only at hv ⊢
  obtain ⟨sv, rfl, hsv⟩ := hv
  obtain ⟨a, cap, rfl, _, _⟩ := hsv.slice
  have hb3' := hb2.trans (hb3.mono hb2.size)
  have HJ : Hid (JbAt w3 w3.heap.size (.agg #[.int .i64 ptwoJ.par, .slice a ptwoJ.nodes.length cap]) ptwoJ) := ⟨_, rfl, hsv⟩
  have hbx := Blk.new w3 #[.int .i64 ptwoJ.par, .slice a ptwoJ.nodes.length cap] 24
  have hb4 := hb3'.alloc hb3'.size (.cells #[.int .i64 ptwoJ.par, .slice a ptwoJ.nodes.length cap] 24)
  have HJ2 : Hid (JbAt (w3.alloc (.cells #[.int .i64 ptwoJ.par, .slice a ptwoJ.nodes.length cap] 24)) w3.heap.size (.agg #[.int .i64 ptwoJ.par, .slice a ptwoJ.nodes.length cap]) ptwoJ) := HJ.out.keep ((Below.refl _ _).alloc (Nat.le_refl _) _)
  clear hb3 hb3' hsv hb2 HJ
  generalize ptwoJ.par = par at *
  generalize ptwoJ.nodes.length = nl at *
  go_upto_region 3 with fail
  have hsz : w3.heap.size < (w3.alloc (.cells #[.int .i64 par, .slice a nl cap] 24)).heap.size := hbx.lt
  generalize w3.alloc (.cells #[.int .i64 par, .slice a nl cap] 24) = W at *
  have b0 := hbx.drew
  have HSR := Lib.hid (Jb.same_refl ptwoJ)
  refine wp_region_held_drew (S := (fun w' => Blk w' w3.heap.size 24 #[.int .i64 par, .slice a nl cap])) (by kernel_rfl) ?_ (fun hHeld => ?_)
  · exact b0
  refine wpAnyH_take (i := 0) (oi := _) (v := ?_) rfl (by kernel_rfl) (by kernel_rfl) (by kernel_rfl) (fun _ _ _ h => h) (Or.inl ⟨by rfl, ?_⟩) (by assumption) ?_
  rotate_left
  · intro w' hSw
    (try dsimp only at hSw)
    have l0 := hSw.cell 0
    have l1 := hSw.cell 1
    clear hSw
    go_simp
    try with_reducible rfl
  try simp only [Act.put, List.getElem_toArray, List.getElem_cons_zero, List.setIfInBounds_toArray, List.set_cons_zero, List.set_cons_succ]
  refine wpAnyH_take (i := 1) (oi := _) (v := ?_) rfl (by kernel_rfl) (by kernel_rfl) (by kernel_rfl) (fun _ _ _ h => h) (Or.inl ⟨by rfl, ?_⟩) (by assumption) ?_
  rotate_left
  · intro w' hSw
    (try dsimp only at hSw)
    have l0 := hSw.cell 0
    have l1 := hSw.cell 1
    clear hSw
    go_simp
    try with_reducible rfl
  try simp only [Act.put, List.getElem_toArray, List.getElem_cons_zero, List.getElem_cons_succ, List.setIfInBounds_toArray, List.set_cons_zero, List.set_cons_succ]
  refine wpAnyH_take (i := 2) (oi := _) (v := ?_) rfl (by kernel_rfl) (by kernel_rfl) (by kernel_rfl) (fun _ _ _ h => h) (Or.inl ⟨by rfl, ?_⟩) (by assumption) ?_
  rotate_left
  · intro w' hSw
    (try dsimp only at hSw)
    have l0 := hSw.cell 0
    have l1 := hSw.cell 1
    clear hSw
    go_simp
    try with_reducible rfl
  try simp only [Act.put, List.getElem_toArray, List.getElem_cons_zero, List.getElem_cons_succ, List.setIfInBounds_toArray, List.set_cons_zero, List.set_cons_succ]
  refine wpAnyH_take (i := 3) (oi := _) (v := ?_) rfl (by kernel_rfl) (by kernel_rfl) (by kernel_rfl) (fun _ _ _ h => h) (Or.inl ⟨by rfl, ?_⟩) (by assumption) ?_
  rotate_left
  · intro w' hSw
    (try dsimp only at hSw)
    have l0 := hSw.cell 0
    have l1 := hSw.cell 1
    clear hSw
    go_simp
    try with_reducible rfl
  try simp only [Act.put, List.getElem_toArray, List.getElem_cons_zero, List.getElem_cons_succ, List.setIfInBounds_toArray, List.set_cons_zero, List.set_cons_succ]
  refine wpAnyH_take (i := 4) (oi := _) (v := ?_) rfl (by kernel_rfl) (by kernel_rfl) (by kernel_rfl) (fun _ _ _ h => h) (Or.inl ⟨by rfl, ?_⟩) (by assumption) ?_
  rotate_left
  · intro w' hSw
    (try dsimp only at hSw)
    have l0 := hSw.cell 0
    have l1 := hSw.cell 1
    clear hSw
    go_simp
    try with_reducible rfl
  try simp only [Act.put, List.getElem_toArray, List.getElem_cons_zero, List.getElem_cons_succ, List.setIfInBounds_toArray, List.set_cons_zero, List.set_cons_succ]
  refine wpAnyH_take (i := 5) (oi := _) (v := ?_) rfl (by kernel_rfl) (by kernel_rfl) (by kernel_rfl) (fun _ _ _ h => h) (Or.inl ⟨by rfl, ?_⟩) (by assumption) ?_
  rotate_left
  · intro w' hSw
    (try dsimp only at hSw)
    have l0 := hSw.cell 0
    have l1 := hSw.cell 1
    clear hSw
    go_simp
    try with_reducible rfl
  try simp only [Act.put, List.getElem_toArray, List.getElem_cons_zero, List.getElem_cons_succ, List.setIfInBounds_toArray, List.set_cons_zero, List.set_cons_succ]
  refine wpAnyH_take (i := 6) (oi := _) (v := ?_) rfl (by kernel_rfl) (by kernel_rfl) (by kernel_rfl) (fun _ _ _ h => h) (Or.inl ⟨by rfl, ?_⟩) (by assumption) ?_
  rotate_left
  · intro w' hSw
    (try dsimp only at hSw)
    have l0 := hSw.cell 0
    have l1 := hSw.cell 1
    clear hSw
    go_simp
    try with_reducible rfl
  try simp only [Act.put, List.getElem_toArray, List.getElem_cons_zero, List.getElem_cons_succ, List.setIfInBounds_toArray, List.set_cons_zero, List.set_cons_succ]
  refine wpAnyH_take (i := 7) (oi := _) (v := ?_) rfl (by kernel_rfl) (by kernel_rfl) (by kernel_rfl) (fun _ _ _ h => h) (Or.inl ⟨by rfl, ?_⟩) (by assumption) ?_
  rotate_left
  · intro w' hSw
    (try dsimp only at hSw)
    have l0 := hSw.cell 0
    have l1 := hSw.cell 1
    clear hSw
    go_simp
    try with_reducible rfl
  try simp only [Act.put, List.getElem_toArray, List.getElem_cons_zero, List.getElem_cons_succ, List.setIfInBounds_toArray, List.set_cons_zero, List.set_cons_succ]
  refine wpAnyH_take (i := 8) (oi := _) (v := ?_) rfl (by kernel_rfl) (by kernel_rfl) (by kernel_rfl) (fun _ _ _ h => h) (Or.inl ⟨by rfl, ?_⟩) (by assumption) ?_
  rotate_left
  · intro w' hSw
    (try dsimp only at hSw)
    have l0 := hSw.cell 0
    have l1 := hSw.cell 1
    clear hSw
    go_simp
    try with_reducible rfl
  try simp only [Act.put, List.getElem_toArray, List.getElem_cons_zero, List.getElem_cons_succ, List.setIfInBounds_toArray, List.set_cons_zero, List.set_cons_succ]
  refine wpAnyH_ready (rs := [9]) (by kernel_rfl) (by simp) ?_
  refine AllReadyH.cons rfl (fun K hK => ?_) AllReadyH.nil
  go_simp
  go_at_call 54
  refine (two_c W.drew).mono ?_
  rintro e w5 ⟨b, bt, rfl, h5, hb5⟩
  have bx5 := b0.below hb5 hsz
  refine hK.out _ _ ?_ (fun hHeld => ?_)
  · exact bx5
  clear hK K
  try simp only [Act.put, List.getElem_toArray, List.getElem_cons_zero, List.getElem_cons_succ, List.setIfInBounds_toArray, List.set_cons_zero, List.set_cons_succ]
  refine wpAnyH_ready (rs := [10]) (by kernel_rfl) (by simp) ?_
  refine AllReadyH.cons rfl (fun K hK => ?_) AllReadyH.nil
  go_simp
  go_at_call 22
  refine (rJSame_c ptwoJ ptwoJ _ _ w5.heap.size w5 (((HJ2.out.keep (Below.refl _ _).drew).keep (hb5.mono (Nat.le_of_lt hsz))).mono (Nat.le_trans (Nat.le_of_lt hsz) hb5.size)) h5.at_ (Nat.le_refl _)).mono ?_
  rintro e w6 ⟨rfl, hb6⟩
  rw [HSR.out]
  have bx6 := bx5.below hb6 bx5.lt
  refine hK.out _ _ ?_ (fun hHeld => ?_)
  · exact bx6
  clear hK K
  try simp only [Act.put, List.getElem_toArray, List.getElem_cons_zero, List.getElem_cons_succ, List.setIfInBounds_toArray, List.set_cons_zero, List.set_cons_succ]
  refine wpAnyH_take (i := 11) (oi := _) (v := ?_) rfl (by kernel_rfl) (by kernel_rfl) (by kernel_rfl) (fun _ _ _ h => h) (Or.inl ⟨by rfl, ?_⟩) (by assumption) ?_
  rotate_left
  · intro w' hSw
    (try dsimp only at hSw)
    have l0 := hSw.cell 0
    have l1 := hSw.cell 1
    clear hSw
    go_simp
    try with_reducible rfl
  try simp only [Act.put, List.getElem_toArray, List.getElem_cons_zero, List.getElem_cons_succ, List.setIfInBounds_toArray, List.set_cons_zero, List.set_cons_succ]
  refine wpAnyH_take (i := 12) (oi := _) (v := ?_) rfl (by kernel_rfl) (by kernel_rfl) (by kernel_rfl) (fun _ _ _ h => h) (Or.inl ⟨by rfl, ?_⟩) (by assumption) ?_
  rotate_left
  · intro w' hSw
    (try dsimp only at hSw)
    have l0 := hSw.cell 0
    have l1 := hSw.cell 1
    clear hSw
    go_simp
    try with_reducible rfl
  try simp only [Act.put, List.getElem_toArray, List.getElem_cons_zero, List.getElem_cons_succ, List.setIfInBounds_toArray, List.set_cons_zero, List.set_cons_succ]
  refine wpAnyH_take (i := 13) (oi := _) (v := ?_) rfl (by kernel_rfl) (by kernel_rfl) (by kernel_rfl) (fun _ _ _ h => h) (Or.inl ⟨by rfl, ?_⟩) (by assumption) ?_
  rotate_left
  · intro w' hSw
    (try dsimp only at hSw)
    have l0 := hSw.cell 0
    have l1 := hSw.cell 1
    clear hSw
    go_simp
    try with_reducible rfl
  try simp only [Act.put, List.getElem_toArray, List.getElem_cons_zero, List.getElem_cons_succ, List.setIfInBounds_toArray, List.set_cons_zero, List.set_cons_succ]
  refine wpAnyH_take (i := 14) (oi := _) (v := ?_) rfl (by kernel_rfl) (by kernel_rfl) (by kernel_rfl) (fun _ _ _ h => h) (Or.inl ⟨by rfl, ?_⟩) (by assumption) ?_
  rotate_left
  · intro w' hSw
    (try dsimp only at hSw)
    have l0 := hSw.cell 0
    have l1 := hSw.cell 1
    clear hSw
    go_simp
    try with_reducible rfl
  try simp only [Act.put, List.getElem_toArray, List.getElem_cons_zero, List.getElem_cons_succ, List.setIfInBounds_toArray, List.set_cons_zero, List.set_cons_succ]
  refine wpAnyH_take (i := 15) (oi := _) (v := ?_) rfl (by kernel_rfl) (by kernel_rfl) (by kernel_rfl) (fun _ _ _ h => h) (Or.inl ⟨by rfl, ?_⟩) (by assumption) ?_
  rotate_left
  · intro w' hSw
    (try dsimp only at hSw)
    have l0 := hSw.cell 0
    have l1 := hSw.cell 1
    clear hSw
    go_simp
    try with_reducible rfl
  try simp only [Act.put, List.getElem_toArray, List.getElem_cons_zero, List.getElem_cons_succ, List.setIfInBounds_toArray, List.set_cons_zero, List.set_cons_succ]
  refine wpAnyH_take (i := 16) (oi := _) (v := ?_) rfl (by kernel_rfl) (by kernel_rfl) (by kernel_rfl) (fun _ _ _ h => h) (Or.inl ⟨by rfl, ?_⟩) (by assumption) ?_
  rotate_left
  · intro w' hSw
    (try dsimp only at hSw)
    have l0 := hSw.cell 0
    have l1 := hSw.cell 1
    clear hSw
    go_simp
    try with_reducible rfl
  try simp only [Act.put, List.getElem_toArray, List.getElem_cons_zero, List.getElem_cons_succ, List.setIfInBounds_toArray, List.set_cons_zero, List.set_cons_succ]
  refine wpAnyH_done (by kernel_rfl) ?_ _
  go_wp2_with fail
  go_ret
  exact ⟨rfl, (hb4.drew.trans (hb5.mono (Nat.le_trans hb4.size (Nat.le_refl _)))).trans (hb6.mono (Nat.le_trans hb4.size hb5.size))⟩

end Go.Proofs.Ytfieoehchghiiaa
