/-
  What expressions come to (plain); the walk of eval.two.
-/
import Derived.Test.YtfieoehchghiiaaQ3
namespace Go.Proofs.Ytfieoehchghiiaa
open Go.RowKit
set_option linter.unusedVariables false

/-- What an expression comes to. -/
inductive Ev where
  | int (n : Int)
  | bool (b : Bool)
def Ev.v : Ev → Value
  | .int n => .iface 2 (.int .i64 n)
  | .bool b => .iface 4 (.bool b)

theorem as_int (n : Int) (w : World) : (Instr.typeAssert (.iface 2 (.int .i64 n)) 20 2 false).run Try.prog w = .ok (.int .i64 n) w := by kernel_rfl
theorem as_bool (b : Bool) (w : World) : (Instr.typeAssert (.iface 4 (.bool b)) 20 4 false).run Try.prog w = .ok (.bool b) w := by kernel_rfl
theorem as_int_ok (n : Int) (w : World) : (Instr.typeAssert (.iface 2 (.int .i64 n)) 20 2 true).run Try.prog w = .ok (.tuple #[.int .i64 n, .bool true]) w := by kernel_rfl
theorem as_int_no (b : Bool) (w : World) : (Instr.typeAssert (.iface 4 (.bool b)) 20 2 true).run Try.prog w = .ok (.tuple #[.int .i64 0, .bool false]) w := by kernel_rfl
theorem as_bool_ok (b : Bool) (w : World) : (Instr.typeAssert (.iface 4 (.bool b)) 20 4 true).run Try.prog w = .ok (.tuple #[.bool b, .bool true]) w := by kernel_rfl
theorem as_bool_no (n : Int) (w : World) : (Instr.typeAssert (.iface 2 (.int .i64 n)) 20 4 true).run Try.prog w = .ok (.tuple #[.bool false, .bool false]) w := by kernel_rfl

def evBools (op : Int) (a b : Bool) : Bool := if op = 16 then a && b else if op = 17 then a || b else if op = 14 then a == b else a != b
def evInts (op a b : Int) : Ev :=
  if op = 7 then .int (wrap64 (a + b)) else if op = 8 then .int (wrap64 (a - b)) else if op = 9 then .int (wrap64 (a * b))
  else if op = 12 then .bool (decide (a < b)) else if op = 13 then .bool (decide (a ≤ b)) else if op = 14 then .bool (a == b) else if op = 15 then .bool (a != b)
  else if b = 0 then .int 0 else if op = 10 then .int (wrap64 (a.tdiv b)) else .int (a.tmod b)

set_option maxRecDepth 100000 in
set_option maxHeartbeats 2000000 in
theorem two_b (op : Int) (hop : op = 14 ∨ op = 15 ∨ op = 16 ∨ op = 17) (a b : Bool) (w : World) :
    Calls Try.prog 94 #[.int .u8 op, (Ev.bool a).v, (Ev.bool b).v] w fun e w' => e = .returned (Ev.bool (evBools op a b)).v ∧ Below w.heap.size w w' := by
  have h1 := as_int_no a
  have h2 := as_bool a
  have h3 := as_bool b
  unfold Ev.v
  rcases hop with rfl | rfl | rfl | rfl
  all_goals
    cases a <;> cases b
    all_goals
      go_enter Try.func94, Try.ntmps94
      go_wp2_with fail
      go_quiet (fail)
      go_wp2_with fail
      go_ret
      exact ⟨by unfold evBools; rfl, below_drewN (Below.refl _ _) _⟩

theorem evInts_z (op a b : Int) (h : op = 10 ∨ op = 11) (hb : b = 0) : evInts op a b = .int 0 := by
  rcases h with rfl | rfl <;> simp [evInts, hb]
theorem evInts_10 (a b : Int) (hb : b ≠ 0) : evInts 10 a b = .int (wrap64 (a.tdiv b)) := by simp [evInts, hb]
theorem evInts_11 (a b : Int) (hb : b ≠ 0) : evInts 11 a b = .int (a.tmod b) := by simp [evInts, hb]

set_option maxRecDepth 100000 in
set_option maxHeartbeats 1000000 in
theorem two_7 (a b : Int) (w : World) : Calls Try.prog 94 #[.int .u8 7, .iface 2 (.int .i64 a), .iface 2 (.int .i64 b)] w fun e w' => e = .returned (evInts 7 a b).v ∧ w = w' := by
  have h1 := as_int_ok
  have h2 := as_int
  have HR : Hid ((evInts 7 a b).v = (Ev.int (wrap64 (a + b))).v) := rfl
  generalize (evInts 7 a b).v = r at *
  go_enter Try.func94, Try.ntmps94
  go_wp2_with fail
  go_ret
  exact ⟨by rw [HR.out]; rfl, rfl⟩
set_option maxRecDepth 100000 in
set_option maxHeartbeats 1000000 in
theorem two_8 (a b : Int) (w : World) : Calls Try.prog 94 #[.int .u8 8, .iface 2 (.int .i64 a), .iface 2 (.int .i64 b)] w fun e w' => e = .returned (evInts 8 a b).v ∧ w = w' := by
  have h1 := as_int_ok
  have h2 := as_int
  have HR : Hid ((evInts 8 a b).v = (Ev.int (wrap64 (a - b))).v) := rfl
  generalize (evInts 8 a b).v = r at *
  go_enter Try.func94, Try.ntmps94
  go_wp2_with fail
  go_ret
  exact ⟨by rw [HR.out]; rfl, rfl⟩
set_option maxRecDepth 100000 in
set_option maxHeartbeats 1000000 in
theorem two_9 (a b : Int) (w : World) : Calls Try.prog 94 #[.int .u8 9, .iface 2 (.int .i64 a), .iface 2 (.int .i64 b)] w fun e w' => e = .returned (evInts 9 a b).v ∧ w = w' := by
  have h1 := as_int_ok
  have h2 := as_int
  have HR : Hid ((evInts 9 a b).v = (Ev.int (wrap64 (a * b))).v) := rfl
  generalize (evInts 9 a b).v = r at *
  go_enter Try.func94, Try.ntmps94
  go_wp2_with fail
  go_ret
  exact ⟨by rw [HR.out]; rfl, rfl⟩
set_option maxRecDepth 100000 in
set_option maxHeartbeats 1000000 in
theorem two_12 (a b : Int) (w : World) : Calls Try.prog 94 #[.int .u8 12, .iface 2 (.int .i64 a), .iface 2 (.int .i64 b)] w fun e w' => e = .returned (evInts 12 a b).v ∧ w = w' := by
  have h1 := as_int_ok
  have h2 := as_int
  have HR : Hid ((evInts 12 a b).v = (Ev.bool (decide (a < b))).v) := rfl
  generalize (evInts 12 a b).v = r at *
  go_enter Try.func94, Try.ntmps94
  go_wp2_with fail
  go_ret
  exact ⟨by rw [HR.out]; rfl, rfl⟩
set_option maxRecDepth 100000 in
set_option maxHeartbeats 1000000 in
theorem two_13 (a b : Int) (w : World) : Calls Try.prog 94 #[.int .u8 13, .iface 2 (.int .i64 a), .iface 2 (.int .i64 b)] w fun e w' => e = .returned (evInts 13 a b).v ∧ w = w' := by
  have h1 := as_int_ok
  have h2 := as_int
  have HR : Hid ((evInts 13 a b).v = (Ev.bool (decide (a ≤ b))).v) := rfl
  generalize (evInts 13 a b).v = r at *
  go_enter Try.func94, Try.ntmps94
  go_wp2_with fail
  go_ret
  exact ⟨by rw [HR.out]; rfl, rfl⟩
set_option maxRecDepth 100000 in
set_option maxHeartbeats 1000000 in
theorem two_14 (a b : Int) (w : World) : Calls Try.prog 94 #[.int .u8 14, .iface 2 (.int .i64 a), .iface 2 (.int .i64 b)] w fun e w' => e = .returned (evInts 14 a b).v ∧ w = w' := by
  have h1 := as_int_ok
  have h2 := as_int
  have HR : Hid ((evInts 14 a b).v = (Ev.bool (a == b)).v) := rfl
  generalize (evInts 14 a b).v = r at *
  go_enter Try.func94, Try.ntmps94
  go_wp2_with fail
  go_ret
  exact ⟨by rw [HR.out]; rfl, rfl⟩
set_option maxRecDepth 100000 in
set_option maxHeartbeats 1000000 in
theorem two_15 (a b : Int) (w : World) : Calls Try.prog 94 #[.int .u8 15, .iface 2 (.int .i64 a), .iface 2 (.int .i64 b)] w fun e w' => e = .returned (evInts 15 a b).v ∧ w = w' := by
  have h1 := as_int_ok
  have h2 := as_int
  have HR : Hid ((evInts 15 a b).v = (Ev.bool (a != b)).v) := rfl
  generalize (evInts 15 a b).v = r at *
  go_enter Try.func94, Try.ntmps94
  go_wp2_with fail
  go_ret
  exact ⟨by rw [HR.out]; rfl, rfl⟩
set_option maxRecDepth 100000 in
set_option maxHeartbeats 1000000 in
theorem two_10z (a b : Int) (hb : b = 0) (w : World) : Calls Try.prog 94 #[.int .u8 10, .iface 2 (.int .i64 a), .iface 2 (.int .i64 b)] w fun e w' => e = .returned (evInts 10 a b).v ∧ w = w' := by
  have h1 := as_int_ok
  have h2 := as_int
  have HR := Lib.hid (congrArg Ev.v (evInts_z 10 a b (by omega) hb))
  generalize (evInts 10 a b).v = r at *
  have hb' : (b == 0) = true := by simpa using hb
  clear hb
  go_enter Try.func94, Try.ntmps94
  go_wp2_with fail
  go_ret
  exact ⟨by rw [HR.out]; rfl, rfl⟩
set_option maxRecDepth 100000 in
set_option maxHeartbeats 1000000 in
theorem two_10n (a b : Int) (hb : b ≠ 0) (w : World) : Calls Try.prog 94 #[.int .u8 10, .iface 2 (.int .i64 a), .iface 2 (.int .i64 b)] w fun e w' => e = .returned (evInts 10 a b).v ∧ w = w' := by
  have h1 := as_int_ok
  have h2 := as_int
  have HR := Lib.hid (congrArg Ev.v (evInts_10 a b hb))
  generalize (evInts 10 a b).v = r at *
  have hb' : (b == 0) = false := by simpa using hb
  go_enter Try.func94, Try.ntmps94
  go_wp2_with fail
  go_ret
  exact ⟨by rw [HR.out]; rfl, rfl⟩
set_option maxRecDepth 100000 in
set_option maxHeartbeats 1000000 in
theorem two_11z (a b : Int) (hb : b = 0) (w : World) : Calls Try.prog 94 #[.int .u8 11, .iface 2 (.int .i64 a), .iface 2 (.int .i64 b)] w fun e w' => e = .returned (evInts 11 a b).v ∧ w = w' := by
  have h1 := as_int_ok
  have h2 := as_int
  have HR := Lib.hid (congrArg Ev.v (evInts_z 11 a b (by omega) hb))
  generalize (evInts 11 a b).v = r at *
  have hb' : (b == 0) = true := by simpa using hb
  clear hb
  go_enter Try.func94, Try.ntmps94
  go_wp2_with fail
  go_ret
  exact ⟨by rw [HR.out]; rfl, rfl⟩
set_option maxRecDepth 100000 in
set_option maxHeartbeats 1000000 in
theorem two_11n (a b : Int) (hb : b ≠ 0) (w : World) : Calls Try.prog 94 #[.int .u8 11, .iface 2 (.int .i64 a), .iface 2 (.int .i64 b)] w fun e w' => e = .returned (evInts 11 a b).v ∧ w = w' := by
  have h1 := as_int_ok
  have h2 := as_int
  have HR := Lib.hid (congrArg Ev.v (evInts_11 a b hb))
  generalize (evInts 11 a b).v = r at *
  have hb' : (b == 0) = false := by simpa using hb
  go_enter Try.func94, Try.ntmps94
  go_wp2_with fail
  go_ret
  exact ⟨by rw [HR.out]; rfl, rfl⟩
theorem two_i (op : Int) (hop : op = 7 ∨ op = 8 ∨ op = 9 ∨ op = 10 ∨ op = 11 ∨ op = 12 ∨ op = 13 ∨ op = 14 ∨ op = 15) (a b : Int) (w : World) :
    Calls Try.prog 94 #[.int .u8 op, (Ev.int a).v, (Ev.int b).v] w fun e w' => e = .returned (evInts op a b).v ∧ w = w' := by
  rcases hop with rfl | rfl | rfl | rfl | rfl | rfl | rfl | rfl | rfl
  · exact two_7 a b w
  · exact two_8 a b w
  · exact two_9 a b w
  · by_cases hb : b = 0
    · exact two_10z a b hb w
    · exact two_10n a b hb w
  · by_cases hb : b = 0
    · exact two_11z a b hb w
    · exact two_11n a b hb w
  · exact two_12 a b w
  · exact two_13 a b w
  · exact two_14 a b w
  · exact two_15 a b w

end Go.Proofs.Ytfieoehchghiiaa
