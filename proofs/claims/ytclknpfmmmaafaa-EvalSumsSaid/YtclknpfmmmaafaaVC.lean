/-
  For EvalSums: plain laws on sums and products; the walks of its closures.
-/
import Derived.Test.YtclknpfmmmaafaaV9
import Derived.Test.YtclknpfmmmaafaaT9
import Derived.Test.YtclknpfmmmaafaaV7
namespace Go.Proofs.Ytclknpfmmmaafaa
open Go.RowKit
set_option linter.unusedVariables false

def nm (n : Int) : Ex := .mk 1 n []
/-- An expression that comes to a number, k levels being left. -/
def Num (k : Nat) (x : Ex) : Prop := mayB k x = true ∧ x.ty = 1

theorem Num.succ {k : Nat} {x : Ex} (h : Num k x) : Num (k + 1) x := ⟨mayB_succ k x h.1, h.2⟩
theorem Num.of {n : Int} (h : 0 ≤ n) : Num 1 (nm n) := by
  refine ⟨?_, ?_⟩
  · show (shapeB (Ex.mk 1 n []) && [].all (mayB 0)) = true
    simp [shapeB, Ex.op, Ex.n, Ex.args, manyN, h]
  · unfold nm
    simp only [Ex.ty, Exs.tys]
    decide +kernel
theorem Num.two {k : Nat} {x y : Ex} {op : Int} (hop : op = 7 ∨ op = 8 ∨ op = 9 ∨ op = 10 ∨ op = 11) (hx : Num k x) (hy : Num k y) : Num (k + 1) (.mk op 0 [x, y]) := by
  refine ⟨?_, ?_⟩
  · show (shapeB (Ex.mk op 0 [x, y]) && [x, y].all (mayB k)) = true
    simp only [List.all_cons, List.all_nil, Bool.and_true]
    rw [hx.1, hy.1]
    rcases hop with rfl | rfl | rfl | rfl | rfl <;> simp [shapeB, Ex.op, Ex.n, Ex.args, manyN]
  · simp only [Ex.ty, Exs.tys]
    rw [hx.2, hy.2]
    rcases hop with rfl | rfl | rfl | rfl | rfl <;> decide +kernel
theorem Num.up {k : Nat} {x : Ex} (h : Num k x) : ∀ j, Num (k + j) x
  | 0 => h
  | j + 1 => (Num.up h j).succ
theorem Num.doR {k : Nat} {x : Ex} (hk : k ≤ 16) (h : Num k x) (env : Env) : (x.doR env).n = (x.ev env).n := by
  obtain ⟨j, hj⟩ : ∃ j, 16 = k + j := ⟨16 - k, by omega⟩
  have h1 := h.up j
  rw [← hj] at h1
  have ht : x.typ true = (x.ty, 0) := typ_mk h1.1 (.inl rfl) (by rw [h1.2]; decide)
  rw [doR_ok (by rw [ht])]

def zEnv : Env := ⟨0, 0, 0⟩
theorem ev_nm (n : Int) : (nm n).ev zEnv = .int n := by simp [nm, Ex.ev, evOp]
theorem ev_ar {op : Int} (hop : op = 7 ∨ op = 8 ∨ op = 9 ∨ op = 10 ∨ op = 11) {x y : Ex} {a b : Int} (hx : x.ev zEnv = .int a) (hy : y.ev zEnv = .int b) : (Ex.mk op 0 [x, y]).ev zEnv = evInts op a b := by
  rw [ev_two (a := x) (b := y) (by show 7 ≤ op ∧ op ≤ 17; omega) rfl, hx, hy]
  rfl

theorem wrap64_mod (x q : Int) : wrap64 (x + 18446744073709551616 * q) = wrap64 x := by
  unfold wrap64
  omega
theorem wrap64_ex (x : Int) : ∃ q, wrap64 x = x + 18446744073709551616 * q := by
  unfold wrap64
  exact ⟨((x + 9223372036854775808) % 18446744073709551616 - 9223372036854775808 - x) / 18446744073709551616, by omega⟩
theorem wrap_add (a b c : Int) : wrap64 (a + wrap64 (b + c)) = wrap64 (wrap64 (a + b) + c) := by
  obtain ⟨q, hq⟩ := wrap64_ex (b + c)
  obtain ⟨r, hr⟩ := wrap64_ex (a + b)
  rw [hq, hr, show a + (b + c + 18446744073709551616 * q) = a + b + c + 18446744073709551616 * q by omega, show a + b + 18446744073709551616 * r + c = a + b + c + 18446744073709551616 * r by omega, wrap64_mod, wrap64_mod]
theorem wrap_mul (a b c : Int) : wrap64 (a * wrap64 (b * c)) = wrap64 (wrap64 (a * b) * c) := by
  obtain ⟨q, hq⟩ := wrap64_ex (b * c)
  obtain ⟨r, hr⟩ := wrap64_ex (a * b)
  rw [hq, hr]
  have h1 : a * (b * c + 18446744073709551616 * q) = a * b * c + 18446744073709551616 * (a * q) := by
    rw [Int.mul_add, Int.mul_assoc a b c, Int.mul_left_comm a 18446744073709551616 q]
  have h2 : (a * b + 18446744073709551616 * r) * c = a * b * c + 18446744073709551616 * (r * c) := by
    rw [Int.add_mul, Int.mul_assoc 18446744073709551616 r c]
  rw [h1, h2, wrap64_mod, wrap64_mod]

/-- What a sum's two sides come to. -/
theorem sums_swap {op a b : Int} (hop : op = 7 ∨ op = 9) (ha : 0 ≤ a) (hb : 0 ≤ b) : ((Ex.mk op 0 [nm a, nm b]).doR zEnv).n = ((Ex.mk op 0 [nm b, nm a]).doR zEnv).n := by
  have h5 : op = 7 ∨ op = 8 ∨ op = 9 ∨ op = 10 ∨ op = 11 := by omega
  rw [Num.doR (k := 2) (by omega) (.two h5 (.of ha) (.of hb)), Num.doR (k := 2) (by omega) (.two h5 (.of hb) (.of ha)), ev_ar h5 (ev_nm a) (ev_nm b), ev_ar h5 (ev_nm b) (ev_nm a)]
  rcases hop with rfl | rfl
  · simp only [evInts, if_true]; rw [Int.add_comm]
  · simp only [evInts]; simp only [show ¬ ((9 : Int) = 7) by omega, show ¬ ((9 : Int) = 8) by omega, if_false, if_true]; rw [Int.mul_comm]
theorem sums_assoc {op a b c : Int} (hop : op = 7 ∨ op = 9) (ha : 0 ≤ a) (hb : 0 ≤ b) (hc : 0 ≤ c) :
    ((Ex.mk op 0 [nm a, .mk op 0 [nm b, nm c]]).doR zEnv).n = ((Ex.mk op 0 [.mk op 0 [nm a, nm b], nm c]).doR zEnv).n := by
  have h5 : op = 7 ∨ op = 8 ∨ op = 9 ∨ op = 10 ∨ op = 11 := by omega
  rw [Num.doR (k := 3) (by omega) (.two h5 (Num.of ha).succ (.two h5 (.of hb) (.of hc))), Num.doR (k := 3) (by omega) (.two h5 (.two h5 (.of ha) (.of hb)) (Num.of hc).succ)]
  rcases hop with rfl | rfl
  · have e : ∀ x y, evInts 7 x y = .int (wrap64 (x + y)) := fun x y => rfl
    have h1 : (Ex.mk 7 0 [nm b, nm c]).ev zEnv = .int (wrap64 (b + c)) := by rw [ev_ar h5 (ev_nm b) (ev_nm c), e]
    have h2 : (Ex.mk 7 0 [nm a, nm b]).ev zEnv = .int (wrap64 (a + b)) := by rw [ev_ar h5 (ev_nm a) (ev_nm b), e]
    rw [ev_ar h5 (ev_nm a) h1, ev_ar h5 h2 (ev_nm c), e, e]
    exact wrap_add a b c
  · have e : ∀ x y, evInts 9 x y = .int (wrap64 (x * y)) := fun x y => rfl
    have h1 : (Ex.mk 9 0 [nm b, nm c]).ev zEnv = .int (wrap64 (b * c)) := by rw [ev_ar h5 (ev_nm b) (ev_nm c), e]
    have h2 : (Ex.mk 9 0 [nm a, nm b]).ev zEnv = .int (wrap64 (a * b)) := by rw [ev_ar h5 (ev_nm a) (ev_nm b), e]
    rw [ev_ar h5 (ev_nm a) h1, ev_ar h5 h2 (ev_nm c), e, e]
    exact wrap_mul a b c
theorem sums_less {a : Int} (ha : 0 ≤ a) : ((Ex.mk 8 0 [nm a, nm a]).doR zEnv).n = 0 := by
  have h5 : (8 : Int) = 7 ∨ (8 : Int) = 8 ∨ (8 : Int) = 9 ∨ (8 : Int) = 10 ∨ (8 : Int) = 11 := by omega
  rw [Num.doR (k := 2) (by omega) (.two h5 (.of ha) (.of ha)), ev_ar h5 (ev_nm a) (ev_nm a)]
  show wrap64 (a - a) = 0
  rw [Int.sub_self]
  exact IntWalk.wrap64_in _ ⟨by omega, by omega⟩
def backE (a b : Int) : Ex := .mk 7 0 [.mk 9 0 [.mk 10 0 [nm a, nm b], nm b], .mk 11 0 [nm a, nm b]]
theorem sums_back {a b : Int} (ha : 0 ≤ a) (ham : a ≤ 9223372036854775807) (hb : 0 ≤ b) (hb0 : b ≠ 0) : ((backE a b).doR zEnv).n = a := by
  have o7 : (7 : Int) = 7 ∨ (7 : Int) = 8 ∨ (7 : Int) = 9 ∨ (7 : Int) = 10 ∨ (7 : Int) = 11 := by omega
  have o9 : (9 : Int) = 7 ∨ (9 : Int) = 8 ∨ (9 : Int) = 9 ∨ (9 : Int) = 10 ∨ (9 : Int) = 11 := by omega
  have o10 : (10 : Int) = 7 ∨ (10 : Int) = 8 ∨ (10 : Int) = 9 ∨ (10 : Int) = 10 ∨ (10 : Int) = 11 := by omega
  have o11 : (11 : Int) = 7 ∨ (11 : Int) = 8 ∨ (11 : Int) = 9 ∨ (11 : Int) = 10 ∨ (11 : Int) = 11 := by omega
  unfold backE
  rw [Num.doR (k := 4) (by omega) (.two o7 (.two o9 (.two o10 (.of ha) (.of hb)) (Num.of hb).succ) (Num.two o11 (.of ha) (.of hb)).succ)]
  have h1 : (Ex.mk 10 0 [nm a, nm b]).ev zEnv = .int (wrap64 (a.tdiv b)) := by rw [ev_ar o10 (ev_nm a) (ev_nm b), evInts_10 a b hb0]
  have h2 : (Ex.mk 11 0 [nm a, nm b]).ev zEnv = .int (a.tmod b) := by rw [ev_ar o11 (ev_nm a) (ev_nm b), evInts_11 a b hb0]
  have e9 : ∀ x y, evInts 9 x y = .int (wrap64 (x * y)) := fun x y => rfl
  have e7 : ∀ x y, evInts 7 x y = .int (wrap64 (x + y)) := fun x y => rfl
  have h3 : (Ex.mk 9 0 [.mk 10 0 [nm a, nm b], nm b]).ev zEnv = .int (wrap64 (wrap64 (a.tdiv b) * b)) := by rw [ev_ar o9 h1 (ev_nm b), e9]
  rw [ev_ar o7 h3 h2, e7]
  show wrap64 (wrap64 (wrap64 (a.tdiv b) * b) + a.tmod b) = a
  have hd : a.tdiv b = a / b := Int.tdiv_eq_ediv_of_nonneg ha
  have hm : a.tmod b = a % b := Int.tmod_eq_emod_of_nonneg ha
  have h0 : 0 ≤ a / b := Int.ediv_nonneg ha hb
  have hmn : 0 ≤ a % b := Int.emod_nonneg a hb0
  have hs : b * (a / b) + a % b = a := Int.mul_ediv_add_emod a b
  have hle : a / b ≤ a := Int.ediv_le_self b ha
  have hc : a / b * b = b * (a / b) := Int.mul_comm _ _
  have hmul : 0 ≤ b * (a / b) := Int.mul_nonneg hb h0
  have w1 : wrap64 (a / b) = a / b := IntWalk.wrap64_in _ ⟨by omega, by omega⟩
  rw [hd, hm, w1, hc]
  generalize b * (a / b) = p at *
  have w2 : wrap64 p = p := IntWalk.wrap64_in _ ⟨by omega, by omega⟩
  rw [w2, hs]
  exact IntWalk.wrap64_in _ ⟨by omega, by omega⟩

-- the closures

/-- What a call leaves that makes the expression op, n, l. -/
def ExPost (op n : Int) (l : List Ex) (w : World) (e : Ending) (w' : World) : Prop :=
  ∃ a k c, e = .returned (.agg #[.int .u8 op, .int .i64 n, .slice a k c]) ∧ ExAt w' w'.heap.size (.agg #[.int .u8 op, .int .i64 n, .slice a k c]) (.mk op n l) ∧ Below w.heap.size w w'

set_option maxHeartbeats 400000 in
theorem snum_c (n : Int) (w : World) : Calls Try.prog 24 #[.int .i64 n] w (ExPost 1 n [] w) := by
  go_enter Try.func24, Try.ntmps24
  go_wp2
  have h0 := Blk.new w #[.int .u8 1, .int .i64 n, .slice none 0 0] 28
  refine bodyPost_ret (v := .agg #[_, _, _]) (results_cell_row rfl _ _ w.heap.size 28 _ (0, 0) _ rfl h0 Try.underlying28 rfl ?_) rfl ⟨none, 0, 0, rfl, ⟨_, rfl, .nil none 0 (Nat.zero_le _)⟩, (Below.refl _ _).alloc (Nat.le_refl _) _⟩
  as_aux_lemma => kernel_rfl

set_option maxHeartbeats 1000000 in
theorem sof_c (op : Int) (x y : Ex) (v u : Value) (w : World) (hv : ExAt w w.heap.size v x) (hu : ExAt w w.heap.size u y) : Calls Try.prog 25 #[.int .u8 op, v, u] w (ExPost op 0 [x, y] w) := by
  obtain ⟨sx, rfl, hsx⟩ := hv
  obtain ⟨sy, rfl, hsy⟩ := hu
  obtain ⟨xa, xc, rfl, _, _⟩ := hsx.slice
  obtain ⟨ya, yc, rfl, _, _⟩ := hsy.slice
  have HSX := Lib.hid hsx
  have HSY := Lib.hid hsy
  clear hsx hsy
  go_enter Try.func25, Try.ntmps25
  go_wp2
  have hB := ((((Below.refl w.heap.size w).alloc (Nat.le_refl _) (.cells #[.int .u8 x.op, .int .i64 x.n, .slice xa x.args.length xc] 28)).alloc (by simp) (.cells #[.int .u8 y.op, .int .i64 y.n, .slice ya y.args.length yc] 28)).alloc (by simp; omega) (.cells #[.int .u8 op, .int .i64 0, .slice (some ⟨w.heap.size + 1 + 1 + 1, 0, none⟩) 2 2] 28)).alloc (by simp; omega) (.cells #[.int .u8 x.op, .int .i64 x.n, .slice xa x.args.length xc, .int .u8 y.op, .int .i64 y.n, .slice ya y.args.length yc] 28)
  have h2 := (Blk.new_at ((w.alloc (.cells #[.int .u8 x.op, .int .i64 x.n, .slice xa x.args.length xc] 28)).alloc (.cells #[.int .u8 y.op, .int .i64 y.n, .slice ya y.args.length yc] 28)) #[.int .u8 op, .int .i64 0, .slice (some ⟨w.heap.size + 1 + 1 + 1, 0, none⟩) 2 2] 28 (k := w.heap.size + 1 + 1) (by simp)).alloc (.cells #[.int .u8 x.op, .int .i64 x.n, .slice xa x.args.length xc, .int .u8 y.op, .int .i64 y.n, .slice ya y.args.length yc] 28)
  have h3 := Blk.new_at (((w.alloc (.cells #[.int .u8 x.op, .int .i64 x.n, .slice xa x.args.length xc] 28)).alloc (.cells #[.int .u8 y.op, .int .i64 y.n, .slice ya y.args.length yc] 28)).alloc (.cells #[.int .u8 op, .int .i64 0, .slice (some ⟨w.heap.size + 1 + 1 + 1, 0, none⟩) 2 2] 28)) #[.int .u8 x.op, .int .i64 x.n, .slice xa x.args.length xc, .int .u8 y.op, .int .i64 y.n, .slice ya y.args.length yc] 28 (k := w.heap.size + 1 + 1 + 1) (by simp)
  generalize World.alloc _ _ = W at *
  have HX := (HSX.out.keep hB).mono hB.size
  have HY := (HSY.out.keep hB).mono hB.size
  refine bodyPost_ret (v := .agg #[_, _, _]) (results_cell_row rfl _ _ (w.heap.size + 1 + 1) 28 _ (0, 0) _ rfl h2 Try.underlying28 rfl ?_) rfl ⟨_, _, _, rfl, ⟨_, rfl, ArgsAt.two (x := x) (y := y) h3 h3.lt HX HY⟩, hB⟩
  as_aux_lemma => kernel_rfl

set_option maxHeartbeats 1000000 in
theorem sat_c (x : Ex) (hok : x.ok) (v : Value) (w : World) (hv : ExAt w w.heap.size v x) : Calls Try.prog 26 #[v] w fun e w' => e = .returned (.int .i64 (x.doR zEnv).n) ∧ Below w.heap.size w w' := by
  have HV := Lib.hid hv
  have HIN := Lib.hid (fun B W => Int_c x hok v B W zEnv)
  obtain ⟨sv, rfl, hs⟩ := hv
  obtain ⟨a, cap, rfl, hcap, hmx⟩ := hs.slice
  clear hs hcap hmx
  have hW := (Below.refl _ w).alloc (Nat.le_refl _) (.cells #[.int .u8 x.op, .int .i64 x.n, .slice a x.args.length cap] 28)
  generalize (x.doR zEnv).n = r at *
  go_enter Try.func26, Try.ntmps26
  go_wp2_with (go_at_call 27; refine (HIN.out _ _ (HV.out.keep hW) hW.size).mono ?_; rintro e w1 ⟨rfl, hq1⟩; have hW1 := hW.trans (hq1.mono hW.size))
  go_ret
  exact ⟨rfl, hW1⟩

end Go.Proofs.Ytclknpfmmmaafaa
