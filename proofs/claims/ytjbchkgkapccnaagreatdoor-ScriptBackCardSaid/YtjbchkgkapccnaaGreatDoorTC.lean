/-
  The reference's Line; the walk of TellLines.
-/
import Derived.Test.YtjbchkgkapccnaaGreatDoorTB
import Derived.Test.YtjbchkgkapccnaaGreatDoorF3
import Derived.Test.YtjbchkgkapccnaaGreatDoorMA
import Derived.Test.YtjbchkgkapccnaaGreatDoorMU
namespace Go.Proofs.YtjbchkgkapccnaaGreatDoor
open Go.RowKit
set_option linter.unusedVariables false

theorem rl_all : ∀ h, RlIH h
  | 0 => fun y hy => absurd hy (Nat.not_lt_zero _)
  | h + 1 => by
    intro y hy v B w k hok hmay hv hB hm
    have IH : Hid (RlIH y.ht) := Lib.hid (fun z hz => rl_all h z (by omega))
    match k, hmay with
    | 0, hmay => simp [mayB] at hmay
    | k + 1, hmay =>
      simp only [mayB, Bool.and_eq_true] at hmay
      obtain ⟨hs, hl⟩ := hmay
      have hs' := of_decide_eq_true hs
      have hon : 0 ≤ y.op ∧ -9223372036854775808 ≤ y.n ∧ y.n ≤ 9223372036854775807 ∧ Exs.ok y.args := by
        obtain ⟨o, n, l⟩ := y
        simp only [Ex.ok] at hok
        exact ⟨hok.1, hok.2.2.1, hok.2.2.2.1, hok.2.2.2.2⟩
      obtain ⟨ho0, hn0, hn1, hoa⟩ := hon
      have hmm : ∀ a ∈ y.args, a.ok ∧ mayB k a = true := fun a ha => ⟨Exs.ok_mem _ hoa a ha, List.all_eq_true.1 hl a ha⟩
      have hmn := hs'.1
      unfold manyN at hmn
      by_cases c1 : y.op = 1
      · exact rl_num y v B w hv c1 hs'.2.1 hn1
      by_cases c2 : y.op = 2 ∨ y.op = 3 ∨ y.op = 4
      · exact rl_name y v B w hv c2
      by_cases c0 : y.op = 0 ∨ 18 < y.op
      · rw [if_pos c0] at hmn; omega
      rw [if_neg c0, if_neg (by omega)] at hmn
      by_cases c5 : y.op = 5 ∨ y.op = 6
      · rw [if_pos (by omega)] at hmn
        obtain ⟨a, ha⟩ := args1 (by omega : y.args.length = 1)
        have m1 := hmm a (by simp [ha])
        exact rl_neg y a IH v B w k hv hB hm c5 ha m1.1 m1.2
      rw [if_neg (by omega)] at hmn
      by_cases c6 : y.op = 18
      · rw [if_pos c6] at hmn
        obtain ⟨a, c, e, ha⟩ := args3 (by omega : y.args.length = 3)
        have m1 := hmm a (by simp [ha])
        have m2 := hmm c (by simp [ha])
        have m3 := hmm e (by simp [ha])
        exact rl_if y a c e IH v B w k hv hB hm c6 ha m1.1 m1.2 m2.1 m2.2 m3.1 m3.2
      · rw [if_neg c6] at hmn
        obtain ⟨a, c, ha⟩ := args2 (by omega : y.args.length = 2)
        have m1 := hmm a (by simp [ha])
        have m2 := hmm c (by simp [ha])
        exact rl_two y a c IH v B w k hv hB hm (by omega) ha m1.1 m1.2 m2.1 m2.2

set_option maxRecDepth 100000 in
set_option maxHeartbeats 1000000 in
theorem rLine_c (x : Ex) (v : Value) (w : World) (hok : x.ok) (hv : ExAt w w.heap.size v x) :
    Calls Tryz.prog 29 #[v] w fun e w' => e = .returned (.tuple #[.string x.told.1, .int .i64 x.told.2]) ∧ Below w.heap.size w w' := by
  obtain ⟨sv, rfl, hs⟩ := hv
  have HV : Hid (ExAt w w.heap.size (.agg #[.int .u8 x.op, .int .i64 x.n, sv]) x) := ⟨_, rfl, hs⟩
  obtain ⟨ad, cap, rfl, hcap, hmx⟩ := hs.slice
  clear hs
  have hb1 : Below w.heap.size w (w.alloc (.cells #[.int .u8 x.op, .int .i64 x.n, .slice ad x.args.length cap] 47)) := (Below.refl _ _).alloc (Nat.le_refl _) _
  have hk1 := Blk.new w #[.int .u8 x.op, .int .i64 x.n, .slice ad x.args.length cap] 47
  have HM : Hid (∀ W, Below w.heap.size w W → Calls Tryz.prog 59 #[.agg #[.int .u8 x.op, .int .i64 x.n, .slice ad x.args.length cap]] W fun e w' => e = .returned (.bool x.mayT) ∧ Below W.heap.size W w') := fun W hb => rMay_c x hok _ w.heap.size W (HV.out.keep hb) hb.size
  have HLN : Hid (x.mayT = true → (∀ W, Below w.heap.size w W → Calls Tryz.prog 60 #[.agg #[.int .u8 x.op, .int .i64 x.n, .slice ad x.args.length cap]] W fun e w' => e = .returned (.string x.line) ∧ Below W.heap.size W w') ∧ x.line.size ≤ 140737488355328) := by
    intro hmay
    have h9 := line_size 16 x hok hmay
    have e1 : 4 ^ 16 = 4294967296 := by decide
    rw [e1] at h9
    exact ⟨fun W hb => rl_all (x.ht + 1) x (by omega) _ w.heap.size W 16 hok hmay (HV.out.keep hb) hb.size (by omega), by omega⟩
  have HE : Hid (x.told = if x.mayT = true then (if 400 < x.line.size then (.empty, 110) else (x.line, 0)) else (.empty, 2)) := rfl
  generalize x.told = td at *
  generalize x.mayT = mb at *
  generalize x.line = ln at *
  generalize x.op = o at *
  generalize x.n = n at *
  generalize x.args.length = l at *
  clear hcap hmx HV hok
  go_enter Tryz.func29, Tryz.ntmps29
  go_upto_region 1 with fail
  generalize World.alloc w _ = W1 at *
  have p0 := hk1.cell 0
  have p1 := hk1.cell 1
  have p2 := hk1.cell 2
  go_wp2_with fail
  refine (HM.out W1 hb1).mono ?_
  rintro e w2 ⟨rfl, hq⟩
  have hk2 := hk1.below hq hk1.lt
  have hb2 := hb1.trans (hq.mono hb1.size)
  clear p0 p1 p2
  cases mb with
  | false =>
    have he : td = (.empty, 2) := HE.out
    subst he
    go_wp2_with fail
    go_ret2
    exact ⟨rfl, hb2⟩
  | true =>
    have he : td = if 400 < ln.size then (.empty, 110) else (ln, 0) := HE.out
    obtain ⟨hln, hsz⟩ := HLN.out (by trivial)
    have HC := Lib.hid (hln w2 hb2)
    have p0 := hk2.cell 0
    have p1 := hk2.cell 1
    have p2 := hk2.cell 2
    clear hln HLN HM
    go_wp2_with fail
    refine HC.out.mono ?_
    rintro e w4 ⟨rfl, h4⟩
    have hb4 := hb2.trans (h4.mono hb2.size)
    clear p0 p1 p2 HC
    by_cases hg : 400 < ln.size
    · have g1 : decide ((400 : Int) < (ln.size : Int)) = true := by rw [decide_eq_true_eq]; omega
      have g2 : decide (400 < ln.size) = true := by rw [decide_eq_true_eq]; omega
      rw [if_pos hg] at he
      subst he
      go_wp2_with fail
      go_ret2
      exact ⟨rfl, hb4⟩
    · have g1 : decide ((400 : Int) < (ln.size : Int)) = false := by rw [decide_eq_false_iff_not]; omega
      have g2 : decide (400 < ln.size) = false := by rw [decide_eq_false_iff_not]; omega
      rw [if_neg hg] at he
      subst he
      go_wp2_with fail
      go_ret2
      exact ⟨rfl, hb4⟩

end Go.Proofs.YtjbchkgkapccnaaGreatDoor
