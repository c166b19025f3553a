/-
  Walks: law12.works, JobKnown.
-/
import Derived.Test.YtfieoehchghiiaaJ10
namespace Go.Proofs.Ytfieoehchghiiaa
open Go.RowKit
set_option linter.unusedVariables false

theorem threeK_may : (threeK 1).may = (0, 0) := by kernel_rfl
theorem threeK_rds : (threeK 1).rds 0 = [1] := by kernel_rfl
theorem threeK_find : (threeK 1).find { data := #[116] } = 2 := by kernel_rfl
theorem threeK0_may : (threeK 0).may = (1, 122) := by kernel_rfl
theorem threeK0_rds : (threeK 0).rds 0 = [] := by kernel_rfl
theorem threeK0_find : (threeK 0).find { data := #[122, 122] } = -1 := by kernel_rfl

set_option maxHeartbeats 1000000 in
theorem jworks_c (w : World) : Calls Try.prog 12 #[] w fun e w' => e = .returned (.bool true) ∧ Below w.heap.size w w' := by
  go_enter Try.func12, Try.ntmps12
  go_wp2_with fail
  refine (three_c _).mono ?_
  rintro e w1 ⟨b, bm, bt, ba, rfl, h1, _, hb1⟩
  have H1 := Lib.hid h1
  clear h1
  go_wp2_with fail
  refine (May_c1 (threeK 1) _ _ _ H1.out.at_ (Nat.le_refl _)).mono ?_
  rintro e w2 ⟨rfl, hb2⟩
  rw [threeK_may]
  go_wp2_with fail
  refine (three_c _).mono ?_
  rintro e w3 ⟨b', bm', bt', ba', rfl, h3, _, hb3⟩
  have H3 := Lib.hid h3
  clear h3
  go_wp2_with fail
  refine (Readers_c (threeK 1) 0 _ _ _ H3.out.at_ (Nat.le_refl _)).mono ?_
  rintro e w4 ⟨v4, rfl, hs4, hb4⟩
  rw [threeK_rds] at hs4
  have HS4 := Lib.hid hs4
  clear hs4
  go_wp2_with fail
  refine (EqualInt_c [1] [1] 1 1 _ _ (w4.heap.size + 1) _ ((HS4.out.below ((Below.refl _ _).alloc (Nat.le_refl _) _)).mono (by omega)) ((Sl.one (Blk.new w4 #[.int .i64 1] 3)).mono (by simp)) rfl rfl).mono ?_
  rintro e w5 ⟨rfl, n, rfl⟩
  rw [show intsB [1] [1] = true from rfl]
  go_wp2_with fail
  refine (three_c _).mono ?_
  rintro e w6 ⟨b', bm', bt', ba', rfl, h6, _, hb6⟩
  have H6 := Lib.hid h6
  clear h6
  go_wp2_with fail
  refine (Find_c (threeK 1) _ _ _ _ H6.out.at_ (Nat.le_refl _)).mono ?_
  rintro e w7 ⟨rfl, hb7⟩
  rw [threeK_find]
  go_wp2_with fail
  go_ret
  refine ⟨rfl, ?_⟩
  have c4 := hb1.trans ((hb2.mono hb1.size).trans ((hb3.mono (Nat.le_trans hb1.size hb2.size)).trans (hb4.mono (Nat.le_trans (Nat.le_trans hb1.size hb2.size) hb3.size))))
  have c5 := below_drewN (c4.alloc c4.size (.cells #[.int .i64 1] 3)) n
  exact c5.trans ((hb6.trans (hb7.mono hb6.size)).mono c5.size)

def twoJ : Jb := ⟨1, [⟨{ data := #[115] }, 1, [], .mk 0 0 [], 0⟩, ⟨{ data := #[115] }, 9, [0], .mk 0 0 [], 0⟩]⟩
theorem twoJ_may : twoJ.may = (1, 121) := by kernel_rfl
theorem two_at {w : World} {b bt : Nat} (h : Blk w b 37 #[.string { data := #[115] }, .int .u8 1, .slice none 0 0, .int .u8 0, .int .i64 0, .slice none 0 0, .int .i64 0,
    .string { data := #[115] }, .int .u8 9, .slice (some ⟨bt, 0, none⟩) 1 1, .int .u8 0, .int .i64 0, .slice none 0 0, .int .i64 0]) (ht : Blk w bt 3 #[.int .i64 0]) :
    JbAt w w.heap.size (.agg #[.int .i64 1, .slice (some ⟨b, 0, none⟩) 2 2]) twoJ := by
  refine ⟨_, rfl, some ⟨b, 0, none⟩, 2, rfl, Nat.le_refl _, by decide, .inr ⟨b, 0, rfl, h.lt, fun j hj => ?_⟩⟩
  have g := fun j => h.cell j
  match j, hj with
  | 0, _ => exact ⟨(show (1 : Nat) ≤ maxLen by decide), .slice none 0 0, .slice none 0 0, g 0, g 1, g 2, g 3, g 4, g 5, g 6, Sl.nil _ _ _, .nil _ _ (Nat.zero_le _)⟩
  | 1, _ => exact ⟨(show (1 : Nat) ≤ maxLen by decide), .slice (some ⟨bt, 0, none⟩) 1 1, .slice none 0 0, g 7, g 8, g 9, g 10, g 11, g 12, g 13, Sl.one ht, .nil _ _ (Nat.zero_le _)⟩

theorem Three.keep {w w' : World} {b bm bt ba : Nat} {i : Int} (h : Three w b bm bt ba i) (hb : Below w.heap.size w w') : Three w' b bm bt ba i :=
  ⟨h.nodes.below hb h.nodes.lt, h.m.below hb h.m.lt, h.t.below hb h.t.lt, h.a.below hb h.a.lt⟩
/-- Another row of places for the last node. -/
theorem Three.turn {w : World} {b bm bt ba : Nat} {i : Int} (h : Three w b bm bt ba i) (o : Obj) (j : Int) :
    Three (((w.setCell ⟨b, 16, none⟩ (.slice (some ⟨w.heap.size + 1, 0, none⟩) 1 1)).alloc o).alloc (.cells #[.int .i64 j] 3)) b bm (w.heap.size + 1) ba j := by
  have ne : ∀ {c : Nat} {t : TypeId} {cs : Array Value}, Blk w c t cs → t ≠ 37 → c ≠ b := fun hc ht e => by
    subst e
    have := h.nodes
    unfold Blk at hc this
    rw [hc] at this
    simp only [Option.some.injEq, Obj.cells.injEq] at this
    exact ht this.2.1
  refine ⟨((h.nodes.set 16 _).alloc _).alloc _, ((h.m.other (p := ⟨b, 16, none⟩) (ne h.m (by decide)) _).alloc _).alloc _, Blk.new_at _ _ _ (by simp [World.setCell]), ((h.a.other (p := ⟨b, 16, none⟩) (ne h.a (by decide)) _).alloc _).alloc _⟩

end Go.Proofs.Ytfieoehchghiiaa
