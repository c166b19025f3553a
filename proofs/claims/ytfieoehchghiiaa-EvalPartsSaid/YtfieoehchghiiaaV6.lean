/-
  Walks: eval.Int, eval.Bool.
-/
import Derived.Test.YtfieoehchghiiaaV5
namespace Go.Proofs.Ytfieoehchghiiaa
open Go.RowKit
set_option linter.unusedVariables false

set_option maxHeartbeats 1000000 in
theorem Int_c (x : Ex) (hok : x.ok) (v : Value) (B : Nat) (w : World) (env : Env) (hv : ExAt w B v x) (hB : B ≤ w.heap.size) :
    Calls Try.prog 27 #[v, env.v] w fun e w' => e = .returned (.int .i64 (x.doR env).n) ∧ Below w.heap.size w w' := by
  have HV := Lib.hid hv
  have HDO := Lib.hid (fun W => Do_c x hok v B W env)
  generalize x.doR env = r at *
  obtain ⟨t, n, b, er⟩ := r
  obtain ⟨sv, rfl, hs⟩ := hv
  obtain ⟨a, cap, rfl, hcap, hmx⟩ := hs.slice
  clear hs hcap hmx
  have hW := ((Below.refl _ w).alloc (Nat.le_refl _) (.cells #[.int .u8 x.op, .int .i64 x.n, .slice a x.args.length cap] 35)).alloc (by simp) (.cells #[.int .i64 env.key, .int .i64 env.val, .int .i64 env.acc] 45)
  unfold Env.v
  go_enter Try.func27, Try.ntmps27
  go_wp2_with (go_at_call 25; refine (HDO.out _ (HV.out.keep (hW.mono hB)) (Nat.le_trans hB hW.size)).mono ?_; rintro e w1 ⟨rfl, hq1⟩; dsimp only [DoR.agg]; have hW1 := hW.trans (hq1.mono hW.size))
  go_ret
  exact ⟨rfl, hW1.alloc hW1.size _⟩

set_option maxHeartbeats 1000000 in
theorem Bool_c (x : Ex) (hok : x.ok) (v : Value) (B : Nat) (w : World) (env : Env) (hv : ExAt w B v x) (hB : B ≤ w.heap.size) :
    Calls Try.prog 28 #[v, env.v] w fun e w' => e = .returned (.bool (x.doR env).b) ∧ Below w.heap.size w w' := by
  have HV := Lib.hid hv
  have HDO := Lib.hid (fun W => Do_c x hok v B W env)
  generalize x.doR env = r at *
  obtain ⟨t, n, b, er⟩ := r
  obtain ⟨sv, rfl, hs⟩ := hv
  obtain ⟨a, cap, rfl, hcap, hmx⟩ := hs.slice
  clear hs hcap hmx
  have hW := ((Below.refl _ w).alloc (Nat.le_refl _) (.cells #[.int .u8 x.op, .int .i64 x.n, .slice a x.args.length cap] 35)).alloc (by simp) (.cells #[.int .i64 env.key, .int .i64 env.val, .int .i64 env.acc] 45)
  unfold Env.v
  go_enter Try.func28, Try.ntmps28
  go_wp2_with (go_at_call 25; refine (HDO.out _ (HV.out.keep (hW.mono hB)) (Nat.le_trans hB hW.size)).mono ?_; rintro e w1 ⟨rfl, hq1⟩; dsimp only [DoR.agg]; have hW1 := hW.trans (hq1.mono hW.size))
  go_ret
  exact ⟨rfl, hW1.alloc hW1.size _⟩

end Go.Proofs.Ytfieoehchghiiaa
