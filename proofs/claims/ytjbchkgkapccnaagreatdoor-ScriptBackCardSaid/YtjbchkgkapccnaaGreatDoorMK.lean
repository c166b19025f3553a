/-
  Walk: kind.accs.
  The map of kind's rules: laws on a map whose keys are rows.
  The map of kind's rules: look-up and store.
  Walk: the closure of kind.rules.
  Walk: kind.rules.
  Types of expressions (plain), for kind.of.
  Walk: kind.of.
  Walks: kind.Of, kind.Is.
  Walk: kind.Is.
  Plain laws on types of expressions.
  Plain laws for KindSwaps, KindSigns.
-/
import Derived.Test.YtjbchkgkapccnaaGreatDoorME
import Derived.Maps.Own
import Derived.Maps.OwnOps
import Derived.Carry

namespace Go.Proofs.YtjbchkgkapccnaaGreatDoor
open Go.RowKit
set_option linter.unusedVariables false

mutual
/-- Whether there is an accumulator in an expression. -/
def Ex.accB : Ex → Bool
  | .mk o _ l => o == 4 || Exs.accB l
def Exs.accB : List Ex → Bool
  | [] => false
  | x :: l => x.accB || Exs.accB l
end
theorem Ex.accB_eq (x : Ex) : x.accB = (x.op == 4 || Exs.accB x.args) := by obtain ⟨o, n, l⟩ := x; rfl

def AccC (h : Nat) : Prop := ∀ (x : Ex) (v : Value) (B : Nat) (w : World), x.ht ≤ h → ExAt w B v x → B ≤ w.heap.size →
  Calls Tryz.prog 155 #[v] w fun e w' => e = .returned (.bool x.accB) ∧ Below w.heap.size w w'

set_option maxHeartbeats 1000000 in
theorem acc_step (h : Nat) (IH : Hid (∀ x : Ex, x.ht < h → ∀ (v : Value) (B : Nat) (w : World), ExAt w B v x → B ≤ w.heap.size →
      Calls Tryz.prog 155 #[v] w fun e w' => e = .returned (.bool x.accB) ∧ Below w.heap.size w w')) : AccC h := by
  intro x v B w hh hv hB
  have HLT : Hid (∀ a ∈ x.args, a.ht < h) := fun a ha => by have := Ex.ht_args x a ha; omega
  have HE := Lib.hid (Ex.accB_eq x)
  obtain ⟨sv, rfl, hs⟩ := hv
  obtain ⟨a, cap, rfl, hcap, hmx⟩ := hs.slice
  have HS := Lib.hid hs
  have hlm : x.args.length ≤ 9223372036854775807 := by unfold maxLen at hmx; omega
  generalize x.op = o at *
  generalize x.n = n at *
  generalize x.args = l at *
  clear hs hh
  by_cases h4 : o = 4
  · have hq1 : (o == 4) = true := by simpa using h4
    have HE2 : Hid (x.accB = true) := by show _ = _; rw [HE.out, hq1]; rfl
    clear h4 HE
    go_enter Tryz.func155, Tryz.ntmps155
    go_wp2
    go_ret
    exact ⟨ret_bool HE2.out.symm, (Below.refl _ _).alloc (Nat.le_refl _) _⟩
  · have hq1 : (o == 4) = false := by simpa using h4
    have HE2 : Hid (x.accB = Exs.accB l) := by show _ = _; rw [HE.out, hq1]; rfl
    clear h4 HE
    go_enter Tryz.func155, Tryz.ntmps155
    go_wp2
    have hW := (Below.refl w.heap.size w).alloc (Nat.le_refl _) (.cells #[.int .u8 o, .int .i64 n, .slice a l.length cap] 47)
    generalize World.alloc w _ = W at *
    go_loopw [11] (fun q wr => ∃ j : Nat, q = .int .i64 j ∧ j ≤ l.length ∧ Below w.heap.size w wr ∧ Exs.accB (l.drop j) = Exs.accB l) (fun q _ => l.length - (intOf q).toNat)
    case atStart => exact ⟨0, rfl, Nat.zero_le _, hW, rfl⟩
    case round =>
      obtain ⟨j, rfl, hj, hBr, hr⟩ := hrel
      by_cases hlt : j < l.length
      · obtain ⟨b, off, cp, sv, e1, hb, c0, c1, c2, hsub⟩ := ((HS.out.mono hB).keep hBr).at_ j hlt
        simp only [Value.slice.injEq, true_and] at e1
        obtain ⟨rfl, rfl⟩ := e1
        obtain ⟨a2, cap2, rfl, _, _⟩ := hsub.slice
        rw [List.drop_eq_getElem_cons hlt] at hr
        simp only [Exs.accB] at hr
        have hht := HLT.out _ (List.getElem_mem hlt)
        have hx : ∀ X, Below wr.heap.size wr X → ExAt X X.heap.size (.agg #[.int .u8 (l[j]'hlt).op, .int .i64 (l[j]'hlt).n, .slice a2 (l[j]'hlt).args.length cap2]) (l[j]'hlt) := fun X hX => ⟨_, rfl, (hsub.keep (hX.mono hBr.size)).mono (Nat.le_trans hBr.size hX.size)⟩
        generalize l[j] = y at *
        have HX := Lib.hid hx
        have HR := Lib.hid hr
        clear hr hx hsub
        cases hy : y.accB
        all_goals
          have HY := Lib.hid hy
          clear hy
          go_wp2_with (go_at_call 155; refine (IH.out y hht _ _ _ (HX.out _ ((Below.refl _ _).alloc (Nat.le_refl _) _)) (Nat.le_refl _)).mono ?_; rintro e w3 ⟨rfl, hb3⟩; rw [HY.out])
        · go_roundw
          case rel => exact ⟨j + 1, by go_num, by omega, (hBr.alloc hBr.size _).trans (hb3.mono (by have := hBr.size; simp; omega)), by rw [← HR.out, HY.out, Bool.false_or]⟩
          case measure => simp [intOf]; omega
        · go_ret
          exact ⟨ret_bool (by rw [HE2.out, ← HR.out, HY.out]; rfl), (hBr.alloc hBr.size _).trans (hb3.mono (by have := hBr.size; simp; omega))⟩
      · rw [List.drop_of_length_le (by omega)] at hr
        have HR := Lib.hid hr
        clear hr
        go_wp2
        go_ret
        exact ⟨ret_bool (by rw [HE2.out, ← HR.out]; rfl), hBr⟩

theorem acc_all (h : Nat) : AccC h := by
  induction h using Nat.strongRecOn with
  | ind h ih => exact acc_step h (fun x hx v B w hv hB => ih x.ht hx x v B w (Nat.le_refl _) hv hB)
theorem accs_c (x : Ex) (v : Value) (B : Nat) (w : World) (hv : ExAt w B v x) (hB : B ≤ w.heap.size) :
    Calls Tryz.prog 155 #[v] w fun e w' => e = .returned (.bool x.accB) ∧ Below w.heap.size w w' := acc_all x.ht x v B w (Nat.le_refl _) hv hB

end Go.Proofs.YtjbchkgkapccnaaGreatDoor

namespace Go.Proofs.YtjbchkgkapccnaaGreatDoor
open Go.RowKit
set_option linter.unusedVariables false

structure Row where
  op : Int
  a : Int
  b : Int
  c : Int
deriving DecidableEq

def Row.v (r : Row) : Value := .agg #[.int .u8 r.op, .int .u8 r.a, .int .u8 r.b, .int .u8 r.c]

theorem eq_u8 (d : Nat) (x y : Int) (w : World) : (Op.equalIn (d + 1) 5 (.int .u8 x) (.int .u8 y)).run Tryz.prog w = .ok (x == y) w := by
  unfold Op.equalIn
  go_simp
theorem eq_arr (d : Nat) (a b c a' b' c' : Int) (w : World) : (Op.equalIn (d + 2) 211 (.agg #[.int .u8 a, .int .u8 b, .int .u8 c]) (.agg #[.int .u8 a', .int .u8 b', .int .u8 c'])).run Tryz.prog w = .ok (a == a' && (b == b' && c == c')) w := by
  unfold Op.equalIn
  go_simp
  rw [show List.range' 0 3 = [0, 1, 2] from rfl]
  simp only [List.forIn_cons, List.forIn_nil]
  go_simp
  by_cases h1 : a = a'
  · by_cases h2 : b = b'
    · by_cases h3 : c = c' <;> simp [h1, h2, h3]
    · simp [h1, h2]
  · simp [h1]
theorem run_eq_row (r s : Row) (w : World) : (Op.equal 213 r.v s.v).run Tryz.prog w = .ok (decide (r = s)) w := by
  obtain ⟨o, a, b, c⟩ := r
  obtain ⟨o', a', b', c'⟩ := s
  simp only [Row.v]
  unfold Op.equal Op.maxDepth Op.equalIn
  go_simp
  rw [show (Op.equalIn 9999 211 (.agg #[.int .u8 a, .int .u8 b, .int .u8 c]) (.agg #[.int .u8 a', .int .u8 b', .int .u8 c'])).run Tryz.prog w = _ from eq_arr 9997 a b c a' b' c' w]
  by_cases h1 : o = o'
  · by_cases h2 : a = a'
    · by_cases h3 : b = b'
      · by_cases h4 : c = c'
        · simp [h1, h2, h3, h4, Result.andThen]
        · simp [h1, h2, h3, h4, Result.andThen]
      · simp [h1, h2, h3, Result.andThen]
    · simp [h1, h2, Result.andThen]
  · simp [h1]

theorem ck_u8 (d : Nat) (e : Bool) (x : Int) (w : World) : (Instr.checkKey e (d + 1) 5 (.int .u8 x)).run Tryz.prog w = .ok () w := by
  unfold Instr.checkKey
  go_simp
theorem ck_arr (d : Nat) (e : Bool) (a b c : Int) (w : World) : (Instr.checkKey e (d + 2) 211 (.agg #[.int .u8 a, .int .u8 b, .int .u8 c])).run Tryz.prog w = .ok () w := by
  unfold Instr.checkKey
  go_simp
  rw [show List.range' 0 3 = [0, 1, 2] from rfl]
  simp only [List.forIn_cons, List.forIn_nil]
  go_simp
  simp only [ck_u8]
  go_simp
theorem run_checkKey_row (e : Bool) (r : Row) (w : World) : (Instr.checkKey e 10000 213 r.v).run Tryz.prog w = .ok () w := by
  obtain ⟨o, a, b, c⟩ := r
  simp only [Row.v]
  unfold Instr.checkKey
  go_simp
  rw [show (Instr.checkKey e 9999 5 (.int .u8 o)).run Tryz.prog w = _ from ck_u8 9998 e o w]
  simp only [Result.andThen]
  exact ck_arr 9997 e a b c w

/-- The first entry at a key. -/
def findRow (r : Row) : List (Row × Int) → Nat → Option (Nat × Int)
  | [], _ => none
  | p :: l, i => if r = p.1 then some (i, p.2) else findRow r l (i + 1)
def getRow (r : Row) (l : List (Row × Int)) : Int := ((findRow r l 0).map (·.2)).getD 0

/-- The entries of a map of rows. -/
def EntsAre (es : List MapEntry) (kv : List (Row × Int)) : Prop := es.map (fun e => (e.key, e.val)) = kv.map (fun p => (p.1.v, Value.int .u8 p.2))

theorem findAsking_row (r : Row) (w : World) : ∀ (kv : List (Row × Int)) (es : List MapEntry) (i : Nat), EntsAre es kv →
    (Instr.findAsking 213 r.v es i).run Tryz.prog w = .ok ((findRow r kv i).map (fun p => (p.1, Value.int .u8 p.2))) w
  | [], [], i, _ => by unfold Instr.findAsking; go_simp; rfl
  | [], _ :: _, i, h => by simp [EntsAre] at h
  | _ :: _, [], i, h => by simp [EntsAre] at h
  | p :: kv, e :: es, i, h => by
    simp only [EntsAre, List.map_cons, List.cons.injEq, Prod.mk.injEq] at h
    obtain ⟨⟨h1, h2⟩, h3⟩ := h
    have ih := findAsking_row r w kv es (i + 1) h3
    unfold Instr.findAsking findRow
    rw [h1, h2]
    go_simp
    rw [run_eq_row]
    by_cases hr : r = p.1
    · simp [hr, Result.andThen]
    · simp [hr, Result.andThen, ih]

end Go.Proofs.YtjbchkgkapccnaaGreatDoor

namespace Go.Proofs.YtjbchkgkapccnaaGreatDoor
open Go.RowKit
set_option linter.unusedVariables false

def MapIs (w : World) (b : Nat) (kv : List (Row × Int)) : Prop := ∃ es clock, w.heap[b]? = some (.map es clock) ∧ EntsAre es.toList kv

namespace MapIs
variable {w w' : World} {b : Nat} {kv : List (Row × Int)}
theorem lt (h : MapIs w b kv) : b < w.heap.size := by obtain ⟨es, clock, h, _⟩ := h; exact (Array.getElem?_eq_some_iff.1 h).1
theorem fr {S : Nat → Prop} (h : MapIs w b kv) (hf : Fr S w w') (hs : ¬ S b) : MapIs w' b kv := by obtain ⟨es, clock, h1, h2⟩ := h; exact ⟨es, clock, hf.heap_at h1 hs, h2⟩
theorem below {B : Nat} (h : MapIs w b kv) (hf : Below B w w') (hb : b < B) : MapIs w' b kv := by obtain ⟨es, clock, h1, h2⟩ := h; exact ⟨es, clock, (hf.block b hb).trans h1, h2⟩
theorem other (h : MapIs w b kv) {p : Addr} (hp : b ≠ p.block) (u : Value) : MapIs (w.setCell p u) b kv := by obtain ⟨es, clock, h1, h2⟩ := h; exact ⟨es, clock, (heap_setCell_other w p b u hp).trans h1, h2⟩
theorem alloc (h : MapIs w b kv) (o : Obj) : MapIs (w.alloc o) b kv := by have := h.lt; obtain ⟨es, clock, h1, h2⟩ := h; exact ⟨es, clock, (alloc_old w o b this).trans h1, h2⟩
end MapIs

theorem findKey_row (r : Row) (w : World) (kv : List (Row × Int)) (es : List MapEntry) (h : EntsAre es kv) :
    (Instr.findKey 213 r.v es).run Tryz.prog w = .ok ((findRow r kv 0).map (fun p => (p.1, Value.int .u8 p.2))) w := by
  have ha := findAsking_row r w kv es 0 h
  unfold Instr.findKey
  cases es with
  | nil =>
    cases kv with
    | nil => simp [run_underlying Tryz.underlying213, Instr.findNow, findRow, Result.andThen]
    | cons p kv => simp [EntsAre] at h
  | cons e es =>
    simp [run_underlying Tryz.underlying213, Instr.findNow, Instr.sameNow, Result.andThen, ha]

theorem lookup_row {w : World} {b : Nat} {kv : List (Row × Int)} (h : MapIs w b kv) (r : Row) :
    (Instr.lookup 194 (.map (some b)) r.v false).run Tryz.prog w = .ok (.int .u8 (getRow r kv)) w := by
  obtain ⟨es, clock, h1, h2⟩ := h
  have hz : (zeroValue 5).run Tryz.prog w = .ok (.int .u8 0) w := by go_simp
  unfold Instr.lookup getRow
  cases hf : findRow r kv 0 with
  | none => simp [run_underlying Tryz.underlying194, MapKept.run_getObj_map h1, run_checkKey_row, findKey_row r w kv _ h2, hf, hz, Result.andThen]
  | some p => simp [run_underlying Tryz.underlying194, MapKept.run_getObj_map h1, run_checkKey_row, findKey_row r w kv _ h2, hf, Result.andThen]

theorem update_row {w : World} {b : Nat} {kv : List (Row × Int)} (h : MapIs w b kv) (r : Row) (x : Int) (hnew : findRow r kv 0 = none) :
    ∃ w', (Instr.mapUpdate 194 (.map (some b)) r.v (.int .u8 x)).run Tryz.prog w = .ok () w' ∧ MapIs w' b (kv ++ [(r, x)]) ∧ Fr (fun k => k = b) w w' := by
  have hlt := h.lt
  obtain ⟨es, clock, h1, h2⟩ := h
  refine ⟨ChangeMaps.setBlock w b (.map (es.push ⟨r.v, .int .u8 x, clock⟩) (clock + 1)), ?_, ⟨es.push ⟨r.v, .int .u8 x, clock⟩, clock + 1, by simp [ChangeMaps.setBlock, hlt], ?_⟩, ⟨rfl, rfl, rfl, by simp [ChangeMaps.setBlock], fun k hk hs => ?_⟩⟩
  · unfold Instr.mapUpdate
    simp [run_underlying Tryz.underlying194, MapKept.run_getObj_map h1, run_checkKey_row, findKey_row r w kv _ h2, hnew, MapKept.run_setObj_map _ h1, Result.andThen, ChangeMaps.setBlock]
  · simp only [EntsAre, Array.toList_push, List.map_append, List.map_cons, List.map_nil] at h2 ⊢
    rw [h2]
  · simp [ChangeMaps.setBlock, Ne.symm hs]

theorem wpList_lookup_row (w : World) {ops : Array Oper} {rest : List Oper} {o : Oper} {a : Act} {Q : Exit → Act → World → Prop}
    (hg : o.guard = none) (m x : Operand) (hop : o.op = Op.lookup 194 m x false) (b : Nat) (kv : List (Row × Int)) (hm : a.eval m = .map (some b)) (h : MapIs w b kv) (r : Row) (hx : a.eval x = r.v)
    (hK : wpList Tryz.prog ops Q rest (a.put o.dst (.int .u8 (getRow r kv))) w) : wpList Tryz.prog ops Q (o :: rest) a w := by
  refine wpList_plain hg fun K' hK' => ?_
  have hrun := lookup_row h r
  unfold Oper.wp
  simp [execOp, hop, hm, hx, hrun, Result.andThen]
  exact hK' _ _ hK

theorem wpList_update_row (w : World) {ops : Array Oper} {rest : List Oper} {o : Oper} {a : Act} {Q : Exit → Act → World → Prop}
    (hg : o.guard = none) (m x v : Operand) (hop : o.op = Op.mapUpdate 194 m x v) (b : Nat) (kv : List (Row × Int)) (hm : a.eval m = .map (some b)) (h : MapIs w b kv) (r : Row) (hx : a.eval x = r.v)
    (y : Int) (hv : a.eval v = .int .u8 y) (hnew : findRow r kv 0 = none)
    (hK : ∀ w', MapIs w' b (kv ++ [(r, y)]) → Fr (fun k => k = b) w w' → wpList Tryz.prog ops Q rest (a.put o.dst undef) w') : wpList Tryz.prog ops Q (o :: rest) a w := by
  refine wpList_plain hg fun K' hK' => ?_
  obtain ⟨w', hrun, r1, r2⟩ := update_row h r y hnew
  unfold Oper.wp
  simp [execOp, hop, hm, hx, hv, hrun, Result.andThen]
  exact hK' _ _ (hK w' r1 r2)

end Go.Proofs.YtjbchkgkapccnaaGreatDoor

namespace Go.Proofs.YtjbchkgkapccnaaGreatDoor
open Go.RowKit
set_option linter.unusedVariables false

def rowsOf (ty a b c : Int) (ops : List Int) : List (Row × Int) := ops.map (fun o => (⟨o, a, b, c⟩, ty))

set_option maxHeartbeats 1000000 in
theorem put_c (ty A B C : Int) (ops : List Int) (n bs : Nat) (ts : TypeId) (Bm bm : Nat) (kv : List (Row × Int)) (w : World) (hn : ops.length = n) (hn2 : n ≤ 1000)
    (hs : Blk w bs ts (ops.map (Value.int .u8)).toArray) (hp : w.cell? ⟨Bm, 0, none⟩ = some (.map (some bm))) (hpb : Bm ≠ bm) (hpl : Bm < w.heap.size) (hsb : bs ≠ bm) (hm : MapIs w bm kv)
    (hnew : ∀ j (h : j < ops.length), findRow ⟨ops[j], A, B, C⟩ (kv ++ rowsOf ty A B C (ops.take j)) 0 = none) :
    Calls Tryz.prog 171 #[.int .u8 ty, .agg #[.int .u8 A, .int .u8 B, .int .u8 C], .slice (some ⟨bs, 0, none⟩) n n, .pointer (some ⟨Bm, 0, none⟩)] w
      fun e w' => e = .returned (.tuple #[]) ∧ MapIs w' bm (kv ++ rowsOf ty A B C ops) ∧ Fr (fun k => k = bm) w w' := by
  have HNEW := Lib.hid hnew
  have HN := Lib.hid hn
  clear hnew hn
  go_enter Tryz.func171, Tryz.ntmps171
  go_wp2
  have hW : Fr (fun k => k = bm) w (w.alloc (.cells #[.int .u8 A, .int .u8 B, .int .u8 C] 211)) := (Fr.refl _ w).alloc _
  have hA := Blk.new w #[.int .u8 A, .int .u8 B, .int .u8 C] 211
  have hp1 := (hW.block Bm hpl (by exact hpb))
  have hp' : (w.alloc (.cells #[.int .u8 A, .int .u8 B, .int .u8 C] 211)).cell? ⟨Bm, 0, none⟩ = some (.map (some bm)) := (((Below.refl _ w).alloc (Nat.le_refl _) _).cell (p := ⟨Bm, 0, none⟩) hpl).trans hp
  have hm' := hm.alloc (.cells #[.int .u8 A, .int .u8 B, .int .u8 C] 211)
  have hs' := hs.alloc (.cells #[.int .u8 A, .int .u8 B, .int .u8 C] 211)
  have hmlt := hm.lt
  generalize World.alloc w _ = W at *
  go_loopw [11] (fun q wr => ∃ j : Nat, q = .int .i64 j ∧ j ≤ n ∧ Fr (fun k => k = bm) w wr ∧ Blk wr bs ts (ops.map (Value.int .u8)).toArray ∧ Blk wr w.heap.size 211 #[.int .u8 A, .int .u8 B, .int .u8 C] ∧
    wr.cell? ⟨Bm, 0, none⟩ = some (.map (some bm)) ∧ MapIs wr bm (kv ++ rowsOf ty A B C (ops.take j))) (fun q _ => n - (intOf q).toNat)
  case atStart => exact ⟨0, rfl, Nat.zero_le _, hW, hs', hA, hp', by simpa [rowsOf] using hm'⟩
  case round =>
    obtain ⟨j, rfl, hj, hFr, hsr, hAr, hpr, hmr⟩ := hrel
    by_cases hlt : j < n
    · have hjl : j < ops.length := by have := HN.out; omega
      have hcell : wr.cell? ⟨bs, j, none⟩ = some (.int .u8 (ops[j]'hjl)) := by rw [hsr.cell j]; simp [hjl]
      have a0 := hAr.cell 0
      have a1 := hAr.cell 1
      have a2 := hAr.cell 2
      have HF := Lib.hid (HNEW.out j hjl)
      have HT := Lib.hid (List.take_succ_eq_append_getElem hjl)
      generalize ops[j] = o at *
      go_wp2_with (at_mapUpdate; refine wpList_update_row _ rfl _ _ _ rfl bm _ rfl hmr ⟨o, A, B, C⟩ rfl ty rfl HF.out ?_; intro w3 hm3 hf3)
      go_roundw
      case rel =>
        refine ⟨j + 1, by go_num, by omega, hFr.trans hf3, hsr.fr hf3 hsb, hAr.fr hf3 (by omega), ?_, ?_⟩
        · exact (World.cell?_of_block (a := ⟨Bm, 0, none⟩) (hf3.block Bm (Nat.lt_of_lt_of_le hpl hFr.size) hpb)).trans hpr
        · rw [HT.out]; simpa [rowsOf, List.append_assoc] using hm3
      case measure => simp [intOf]; omega
    · have HT := Lib.hid (show ops.take j = ops from List.take_of_length_le (by have := HN.out; omega))
      go_wp2
      go_end0
      refine ⟨rfl, ?_, hFr⟩
      rw [HT.out] at hmr
      exact hmr

end Go.Proofs.YtjbchkgkapccnaaGreatDoor

namespace Go.Proofs.YtjbchkgkapccnaaGreatDoor
open Go.RowKit
set_option linter.unusedVariables false

def kv1 := rowsOf 1 0 0 0 [1, 2, 3, 4]
def kv2 := kv1 ++ rowsOf 1 1 0 0 [5]
def kv3 := kv2 ++ rowsOf 1 1 1 0 [7, 8, 9, 10, 11]
def kv4 := kv3 ++ rowsOf 2 2 0 0 [6]
def kv5 := kv4 ++ rowsOf 2 2 2 0 [16, 17, 14, 15]
def kv6 := kv5 ++ rowsOf 2 1 1 0 [12, 13, 14, 15]
def kv7 := kv6 ++ rowsOf 1 2 1 1 [18]
def kv8 := kv7 ++ rowsOf 2 2 2 2 [18]

structure Kd (w W : World) (kv : List (Row × Int)) : Prop where
  map : MapIs W w.heap.size kv
  cell : W.cell? ⟨w.heap.size + 1, 0, none⟩ = some (.map (some w.heap.size))
  size : w.heap.size + 2 ≤ W.heap.size
  below : Below w.heap.size w W

theorem put_k (w W : World) (kv : List (Row × Int)) (h : Kd w W kv) (ty A B C : Int) (ops : List Int) (n : Nat) (cells : Array Value) (ts : TypeId) (bs : Nat) (hc : cells = (ops.map (Value.int .u8)).toArray) (hn : ops.length = n) (hn2 : n ≤ 1000)
    (hb : bs = W.heap.size) (hnew : ∀ j (h : j < ops.length), findRow ⟨ops[j], A, B, C⟩ (kv ++ rowsOf ty A B C (ops.take j)) 0 = none) :
    Calls Tryz.prog 171 #[.int .u8 ty, .agg #[.int .u8 A, .int .u8 B, .int .u8 C], .slice (some ⟨bs, 0, none⟩) n n, .pointer (some ⟨w.heap.size + 1, 0, none⟩)] (W.alloc (.cells cells ts))
      fun e w' => e = .returned (.tuple #[]) ∧ Kd w w' (kv ++ rowsOf ty A B C ops) := by
  subst hc
  subst hb
  have hs := h.size
  have hcell : (W.alloc (.cells (ops.map (Value.int .u8)).toArray ts)).cell? ⟨w.heap.size + 1, 0, none⟩ = some (.map (some w.heap.size)) :=
    (((Below.refl _ W).alloc (Nat.le_refl _) _).cell (p := ⟨w.heap.size + 1, 0, none⟩) (by show w.heap.size + 1 < _; omega)).trans h.cell
  refine (put_c ty A B C ops n W.heap.size ts (w.heap.size + 1) w.heap.size kv _ hn hn2 (Blk.new _ _ _) hcell (by omega) (by simp; omega) (by omega) (h.map.alloc _) hnew).mono ?_
  rintro e w' ⟨rfl, hm, hf⟩
  refine ⟨rfl, hm, ?_, ?_, ?_⟩
  · exact (World.cell?_of_block (a := ⟨w.heap.size + 1, 0, none⟩) (hf.block (w.heap.size + 1) (by simp; omega) (by omega))).trans hcell
  · have := hf.size
    simp at this
    omega
  · exact (h.below.alloc (by omega) _).trans (hf.below (by simp; omega) (fun k hk => by omega))

theorem new1 : ∀ j (h : j < ([1, 2, 3, 4] : List Int).length), findRow ⟨([1, 2, 3, 4] : List Int)[j], 0, 0, 0⟩ ([] ++ rowsOf 1 0 0 0 (([1, 2, 3, 4] : List Int).take j)) 0 = none := by decide
theorem new2 : ∀ j (h : j < ([5] : List Int).length), findRow ⟨([5] : List Int)[j], 1, 0, 0⟩ (kv1 ++ rowsOf 1 1 0 0 (([5] : List Int).take j)) 0 = none := by decide
theorem new3 : ∀ j (h : j < ([7, 8, 9, 10, 11] : List Int).length), findRow ⟨([7, 8, 9, 10, 11] : List Int)[j], 1, 1, 0⟩ (kv2 ++ rowsOf 1 1 1 0 (([7, 8, 9, 10, 11] : List Int).take j)) 0 = none := by decide
theorem new4 : ∀ j (h : j < ([6] : List Int).length), findRow ⟨([6] : List Int)[j], 2, 0, 0⟩ (kv3 ++ rowsOf 2 2 0 0 (([6] : List Int).take j)) 0 = none := by decide
theorem new5 : ∀ j (h : j < ([16, 17, 14, 15] : List Int).length), findRow ⟨([16, 17, 14, 15] : List Int)[j], 2, 2, 0⟩ (kv4 ++ rowsOf 2 2 2 0 (([16, 17, 14, 15] : List Int).take j)) 0 = none := by decide
theorem new6 : ∀ j (h : j < ([12, 13, 14, 15] : List Int).length), findRow ⟨([12, 13, 14, 15] : List Int)[j], 1, 1, 0⟩ (kv5 ++ rowsOf 2 1 1 0 (([12, 13, 14, 15] : List Int).take j)) 0 = none := by decide
theorem new7 : ∀ j (h : j < ([18] : List Int).length), findRow ⟨([18] : List Int)[j], 2, 1, 1⟩ (kv6 ++ rowsOf 1 2 1 1 (([18] : List Int).take j)) 0 = none := by decide
theorem new8 : ∀ j (h : j < ([18] : List Int).length), findRow ⟨([18] : List Int)[j], 2, 2, 2⟩ (kv7 ++ rowsOf 2 2 2 2 (([18] : List Int).take j)) 0 = none := by decide

set_option maxRecDepth 100000 in
set_option maxHeartbeats 2000000 in
theorem rules_c (w : World) : Calls Tryz.prog 157 #[] w fun e w' => e = .returned (.map (some w.heap.size)) ∧ MapIs w' w.heap.size kv8 ∧ Below w.heap.size w w' := by
  have hmm := @run_makeMap Tryz.prog
  have hmf : ∀ (fn : Fn) (first cap : Array Value) (w : World), (Instr.makeFunc fn first cap).run Tryz.prog w = .ok (.func fn first cap) w := fun _ _ _ _ => rfl
  have h0 : Kd w ((w.alloc (.map #[] 0)).alloc (.cells #[.map (some w.heap.size)] 194)) [] := by
    refine ⟨MapIs.alloc (kv := []) ⟨#[], 0, heap_alloc_new w _, rfl⟩ _, ?_, by simp, ((Below.refl _ _).alloc (Nat.le_refl _) _).alloc (by simp) _⟩
    have := (Blk.new_at (w.alloc (.map #[] 0)) #[.map (some w.heap.size)] 194 (k := w.heap.size + 1) (by simp)).cell 0
    exact this
  go_enter Tryz.func157, Tryz.ntmps157
  go_wp2_with fail
  generalize hWW : World.alloc (World.alloc w _) _ = W at *
  go_wp2_with (first
    | (go_at_call 171; refine (put_k w W [] h0 1 0 0 0 [1, 2, 3, 4] 4 _ _ _ rfl rfl (by omega) (by rw [← hWW]; simp) new1).mono ?_; rintro e w1 ⟨rfl, h1⟩; have c1 := h1.cell; clear h0 hWW)
    | (go_at_call 171; refine (put_k w _ kv1 h1 1 1 0 0 [5] 1 _ _ _ rfl rfl (by omega) rfl new2).mono ?_; rintro e w2 ⟨rfl, h2⟩; have c2 := h2.cell; clear h1 c1)
    | (go_at_call 171; refine (put_k w _ kv2 h2 1 1 1 0 [7, 8, 9, 10, 11] 5 _ _ _ rfl rfl (by omega) rfl new3).mono ?_; rintro e w3 ⟨rfl, h3⟩; have c3 := h3.cell; clear h2 c2)
    | (go_at_call 171; refine (put_k w _ kv3 h3 2 2 0 0 [6] 1 _ _ _ rfl rfl (by omega) rfl new4).mono ?_; rintro e w4 ⟨rfl, h4⟩; have c4 := h4.cell; clear h3 c3)
    | (go_at_call 171; refine (put_k w _ kv4 h4 2 2 2 0 [16, 17, 14, 15] 4 _ _ _ rfl rfl (by omega) rfl new5).mono ?_; rintro e w5 ⟨rfl, h5⟩; have c5 := h5.cell; clear h4 c4)
    | (go_at_call 171; refine (put_k w _ kv5 h5 2 1 1 0 [12, 13, 14, 15] 4 _ _ _ rfl rfl (by omega) rfl new6).mono ?_; rintro e w6 ⟨rfl, h6⟩; have c6 := h6.cell; clear h5 c5)
    | (go_at_call 171; refine (put_k w _ kv6 h6 1 2 1 1 [18] 1 _ _ _ rfl rfl (by omega) rfl new7).mono ?_; rintro e w7 ⟨rfl, h7⟩; have c7 := h7.cell; clear h6 c6)
    | (go_at_call 171; refine (put_k w _ kv7 h7 2 2 2 2 [18] 1 _ _ _ rfl rfl (by omega) rfl new8).mono ?_; rintro e w8 ⟨rfl, h8⟩; have c8 := h8.cell; clear h7 c7))
  go_ret
  exact ⟨rfl, h8.map, h8.below⟩

end Go.Proofs.YtjbchkgkapccnaaGreatDoor

namespace Go.Proofs.YtjbchkgkapccnaaGreatDoor
open Go.RowKit
set_option linter.unusedVariables false

mutual
/-- An expression's type; 0: it has none. -/
def Ex.ty : Ex → Int
  | .mk o _ l => match Exs.tys l with
    | none => 0
    | some ts => getRow ⟨o, ts.getD 0 0, ts.getD 1 0, ts.getD 2 0⟩ kv8
/-- The types of expressions, where each has one. -/
def Exs.tys : List Ex → Option (List Int)
  | [] => some []
  | x :: l => if x.ty = 0 then none else (Exs.tys l).map (x.ty :: ·)
end
theorem Ex.ty_eq (x : Ex) : x.ty = match Exs.tys x.args with | none => 0 | some ts => getRow ⟨x.op, ts.getD 0 0, ts.getD 1 0, ts.getD 2 0⟩ kv8 := by
  obtain ⟨o, n, l⟩ := x
  simp only [Ex.ty, Ex.args, Ex.op]

mutual
/-- No expression in it has more than three arguments. -/
def Ex.thin : Ex → Prop
  | .mk _ _ l => l.length ≤ 3 ∧ Exs.thin l
def Exs.thin : List Ex → Prop
  | [] => True
  | x :: l => x.thin ∧ Exs.thin l
end

end Go.Proofs.YtjbchkgkapccnaaGreatDoor

namespace Go.Proofs.YtjbchkgkapccnaaGreatDoor
open Go.RowKit
set_option linter.unusedVariables false

theorem Exs.thin_mem : ∀ (l : List Ex) (x : Ex), Exs.thin l → x ∈ l → x.thin
  | y :: l, x, h, hm => by
    simp only [Exs.thin] at h
    rcases List.mem_cons.1 hm with rfl | hm
    · exact h.1
    · exact Exs.thin_mem l x h.2 hm
theorem Ex.thin_args (x : Ex) (h : x.thin) : x.args.length ≤ 3 ∧ ∀ a ∈ x.args, a.thin := by
  obtain ⟨o, n, l⟩ := x
  simp only [Ex.thin] at h
  exact ⟨h.1, fun a ha => Exs.thin_mem l a h.2 ha⟩

def OfC (h : Nat) : Prop := ∀ (x : Ex) (v : Value) (B : Nat) (w : World) (bm : Nat), x.ht ≤ h → ExAt w B v x → x.thin → B ≤ w.heap.size → MapIs w bm kv8 →
  Calls Tryz.prog 156 #[.map (some bm), v] w fun e w' => e = .returned (.int .u8 x.ty) ∧ Below w.heap.size w w'

set_option maxHeartbeats 1000000 in
theorem of_step (h : Nat) (IH : Hid (∀ x : Ex, x.ht < h → ∀ (v : Value) (B : Nat) (w : World) (bm : Nat), ExAt w B v x → x.thin → B ≤ w.heap.size → MapIs w bm kv8 →
      Calls Tryz.prog 156 #[.map (some bm), v] w fun e w' => e = .returned (.int .u8 x.ty) ∧ Below w.heap.size w w')) : OfC h := by
  intro x v B w bm hh hv hth hB hm
  have HLT : Hid (∀ a ∈ x.args, a.ht < h) := fun a ha => by have := Ex.ht_args x a ha; omega
  have HTH := Lib.hid (Ex.thin_args x hth)
  have HE := Lib.hid (Ex.ty_eq x)
  obtain ⟨sv, rfl, hs⟩ := hv
  obtain ⟨a, cap, rfl, hcap, hmx⟩ := hs.slice
  have HS := Lib.hid hs
  have hl3 : x.args.length ≤ 3 := HTH.out.1
  generalize x.op = o at *
  generalize x.n = n at *
  generalize x.args = l at *
  clear hs hh hth
  go_enter Tryz.func156, Tryz.ntmps156
  go_wp2
  have hW := (((Below.refl w.heap.size w).alloc (Nat.le_refl _) (.cells #[.int .u8 o, .int .i64 n, .slice a l.length cap] 47)).alloc (by simp) (.cells #[.int .u8 o, .int .u8 0, .int .u8 0, .int .u8 0] 213))
  have hR := Blk.new_at (w.alloc (.cells #[.int .u8 o, .int .i64 n, .slice a l.length cap] 47)) #[.int .u8 o, .int .u8 0, .int .u8 0, .int .u8 0] 213 (k := w.heap.size + 1) (by simp)
  generalize World.alloc (World.alloc w _) _ = W at *
  go_loopw [6, 7, 14] (fun _ _ q wr => ∃ (j : Nat) (ts : List Int), q = .int .i64 j ∧ j ≤ l.length ∧ ts.length = j ∧ Below w.heap.size w wr ∧
    Blk wr (w.heap.size + 1) 213 #[.int .u8 o, .int .u8 (ts.getD 0 0), .int .u8 (ts.getD 1 0), .int .u8 (ts.getD 2 0)] ∧ Exs.tys l = (Exs.tys (l.drop j)).map (ts ++ ·)) (fun _ _ q _ => l.length - (intOf q).toNat)
  case atStart => exact ⟨0, [], rfl, Nat.zero_le _, rfl, hW, hR, by simp⟩
  case round =>
    obtain ⟨j, ts, rfl, hj, hts, hBr, hRr, hr⟩ := hrel
    by_cases hlt : j < l.length
    · obtain ⟨b, off, cp, sv, e1, hb, c0, c1, c2, hsub⟩ := ((HS.out.mono hB).keep hBr).at_ j hlt
      simp only [Value.slice.injEq, true_and] at e1
      obtain ⟨rfl, rfl⟩ := e1
      obtain ⟨a2, cap2, rfl, _, _⟩ := hsub.slice
      rw [List.drop_eq_getElem_cons hlt] at hr
      simp only [Exs.tys] at hr
      have hht := HLT.out _ (List.getElem_mem hlt)
      have hthx := HTH.out.2 _ (List.getElem_mem hlt)
      have hx : ∀ X, Below wr.heap.size wr X → ExAt X X.heap.size (.agg #[.int .u8 (l[j]'hlt).op, .int .i64 (l[j]'hlt).n, .slice a2 (l[j]'hlt).args.length cap2]) (l[j]'hlt) := fun X hX => ⟨_, rfl, (hsub.keep (hX.mono hBr.size)).mono (Nat.le_trans hBr.size hX.size)⟩
      generalize l[j] = y at *
      have HX := Lib.hid hx
      have HR := Lib.hid hr
      clear hr hx hsub
      have hlo : w.heap.size + 1 < wr.heap.size := hRr.lt
      have hj3 : j < 3 := by omega
      have hcl : (#[.int .u8 o, .int .u8 (ts.getD 0 0), .int .u8 (ts.getD 1 0), .int .u8 (ts.getD 2 0)] : Array Value)[1 + j]? = some (.int .u8 0) := by
        have h0 : ts.getD j 0 = 0 := by rw [List.getD_eq_getElem?_getD, List.getElem?_eq_none (by omega)]; rfl
        obtain rfl | rfl | rfl : j = 0 ∨ j = 1 ∨ j = 2 := by omega
        all_goals simpa using h0
      cases hy : (y.ty == 0)
      all_goals
        have HY := Lib.hid hy
        have HY2 := Lib.hid hy
        clear hy
        go_wp2_with (go_at_call 156; refine (IH.out y hht _ _ _ bm (HX.out _ ((Below.refl _ _).alloc (Nat.le_refl _) _)) hthx (Nat.le_refl _) ((hm.below hBr hm.lt).alloc _)).mono ?_; rintro e w3 ⟨rfl, hb3⟩; have hR3 := (hRr.alloc (.cells #[.int .u8 y.op, .int .i64 y.n, .slice a2 y.args.length cap2] 47)).below hb3 (by simp; omega); have r1 := (hR3.cell (1 + j)).trans hcl; have r2 := hR3.free (1 + j); have r3 := HY.out)
      · have HNE := Lib.hid (show ¬ y.ty = 0 by have := HY2.out; simpa using this)
        have hset := hR3.set (1 + j) (.int .u8 y.ty)
        go_roundw
        case rel =>
          refine ⟨j + 1, ts ++ [y.ty], by go_num, by omega, by simp [hts], ?_, ?_, ?_⟩
          · exact ((hBr.alloc hBr.size _).trans (hb3.mono (by have := hBr.size; simp; omega))).setCell (by show _ ≤ w.heap.size + 1; omega) _
          · have hg : ∀ i, i ≠ j → (ts ++ [y.ty]).getD i 0 = ts.getD i 0 := by
              intro i hi
              rw [List.getD_eq_getElem?_getD, List.getD_eq_getElem?_getD]
              by_cases hij : i < j
              · rw [List.getElem?_append_left (by omega)]
              · rw [List.getElem?_eq_none (by simp; omega), List.getElem?_eq_none (by omega)]
            have hg2 : (ts ++ [y.ty]).getD j 0 = y.ty := by subst hts; simp
            obtain rfl | rfl | rfl : j = 0 ∨ j = 1 ∨ j = 2 := by omega
            · rw [hg2, hg 1 (by omega), hg 2 (by omega)]; exact hset
            · rw [hg2, hg 0 (by omega), hg 2 (by omega)]; exact hset
            · rw [hg2, hg 0 (by omega), hg 1 (by omega)]; exact hset
          · rw [HR.out, if_neg HNE.out, Option.map_map]
            congr 1
            funext z
            simp
        case measure => simp [intOf]; omega
      · have HEQ := Lib.hid (show y.ty = 0 by have := HY2.out; simpa using this)
        go_ret
        refine ⟨ret_int (by rw [HE.out, HR.out, if_pos HEQ.out]; rfl), ?_⟩
        exact ((hBr.alloc hBr.size _).trans (hb3.mono (by have := hBr.size; simp; omega))).setCell (by show _ ≤ w.heap.size + 1; omega) _
    · rw [List.drop_of_length_le (by omega)] at hr
      have HR := Lib.hid hr
      clear hr
      have hmr := hm.below hBr hm.lt
      have c0 := hRr.cell 0
      have c1 := hRr.cell 1
      have c2 := hRr.cell 2
      have c3 := hRr.cell 3
      go_wp2_with (at_lookup; refine wpList_lookup_row _ rfl _ _ rfl bm kv8 rfl hmr ⟨o, ts.getD 0 0, ts.getD 1 0, ts.getD 2 0⟩ rfl ?_)
      go_ret
      exact ⟨ret_int (by rw [HE.out, HR.out]; simp [Exs.tys]), hBr⟩

theorem of_all (h : Nat) : OfC h := by
  induction h using Nat.strongRecOn with
  | ind h ih => exact of_step h (fun x hx v B w bm hv ht hB hm => ih x.ht hx x v B w bm (Nat.le_refl _) hv ht hB hm)
theorem of_c (x : Ex) (v : Value) (B : Nat) (w : World) (bm : Nat) (hv : ExAt w B v x) (ht : x.thin) (hB : B ≤ w.heap.size) (hm : MapIs w bm kv8) :
    Calls Tryz.prog 156 #[.map (some bm), v] w fun e w' => e = .returned (.int .u8 x.ty) ∧ Below w.heap.size w w' := of_all x.ht x v B w bm (Nat.le_refl _) hv ht hB hm

end Go.Proofs.YtjbchkgkapccnaaGreatDoor

namespace Go.Proofs.YtjbchkgkapccnaaGreatDoor
open Go.RowKit
set_option linter.unusedVariables false

theorem Exs.thin_of : ∀ (l : List Ex), (∀ a ∈ l, a.thin) → Exs.thin l
  | [], _ => trivial
  | x :: l, h => ⟨h x (by simp), Exs.thin_of l (fun a ha => h a (by simp [ha]))⟩
theorem thin_of_may : ∀ (k : Nat) (x : Ex), mayB k x = true → x.thin := by
  intro k
  induction k with
  | zero => intro x h; simp [mayB] at h
  | succ k ih =>
    intro x h
    simp only [mayB, Bool.and_eq_true, List.all_eq_true] at h
    obtain ⟨h1, h2⟩ := h
    have h1' := (of_decide_eq_true h1).1
    obtain ⟨o, n, l⟩ := x
    simp only [Ex.op, Ex.args] at h1' h2
    refine ⟨?_, Exs.thin_of l (fun a ha => ih a (h2 a ha))⟩
    unfold manyN at h1'
    repeat' split at h1'
    all_goals omega

/-- What kind.Of tells. -/
def Ex.typ (x : Ex) (acc : Bool) : Int × Int := if x.mayT = true then (if acc = false ∧ x.accB = true then (0, 90) else if x.ty = 0 then (0, 91) else (x.ty, 0)) else (0, 2)

set_option maxHeartbeats 1000000 in
theorem Of_c (x : Ex) (acc : Bool) (v : Value) (B : Nat) (w : World) (hv : ExAt w B v x) (hB : B ≤ w.heap.size) :
    Calls Tryz.prog 129 #[v, .bool acc] w fun e w' => e = .returned (.tuple #[.int .u8 (x.typ acc).1, .int .i64 (x.typ acc).2]) ∧ Below w.heap.size w w' := by
  obtain ⟨sv, rfl, hs⟩ := hv
  obtain ⟨a, cap, rfl, hcap, hmx⟩ := hs.slice
  have HX : Hid (∀ X, Below w.heap.size w X → ExAt X X.heap.size (.agg #[.int .u8 x.op, .int .i64 x.n, .slice a x.args.length cap]) x) := fun X hX => ⟨_, rfl, ((hs.mono hB).keep hX).mono hX.size⟩
  clear hs hmx hcap
  have hR := Blk.new w #[.int .u8 x.op, .int .i64 x.n, .slice a x.args.length cap] 47
  have hW := (Below.refl w.heap.size w).alloc (Nat.le_refl _) (.cells #[.int .u8 x.op, .int .i64 x.n, .slice a x.args.length cap] 47)
  have hWs : (w.alloc (.cells #[.int .u8 x.op, .int .i64 x.n, .slice a x.args.length cap] 47)).heap.size = w.heap.size + 1 := by simp
  generalize hgo : x.op = o at *
  generalize hgn : x.n = n at *
  generalize hgl : x.args.length = ll at *
  have HG := Lib.hid (And.intro hgo (And.intro hgn hgl))
  clear hgo hgn hgl
  have HS := Lib.hid hWs
  clear hWs
  cases hm : x.mayT
  · have HM := Lib.hid hm
    have HE : Hid (x.typ acc = (0, 2)) := by simp [Hid, Ex.typ, hm]
    clear hm
    go_enter Tryz.func129, Tryz.ntmps129
    go_wp2_with fail
    generalize World.alloc w _ = W at *
    have c0 := hR.cell 0
    have c1 := hR.cell 1
    have c2 := hR.cell 2
    go_wp2_with (go_at_call 54; refine (May_c x _ _ _ (HX.out _ hW) (Nat.le_refl _)).mono ?_; rintro e w1 ⟨rfl, hb1⟩; rw [HM.out])
    go_ret2
    exact ⟨by rw [HE.out]; rfl, hW.trans (hb1.mono (by have := HS.out; omega))⟩
  · have hth := Lib.hid (thin_of_may 16 x hm)
    have HM := Lib.hid hm
    have HT : Hid ((acc = false ∧ x.accB = true) → x.typ acc = (0, 90)) := fun h => by simp [Ex.typ, hm, h]
    have HU : Hid (¬ (acc = false ∧ x.accB = true) → x.ty = 0 → x.typ acc = (0, 91)) := fun h h' => by simp only [Ex.typ]; rw [if_pos hm, if_neg h, if_pos h']
    have HV : Hid (¬ (acc = false ∧ x.accB = true) → x.ty ≠ 0 → x.typ acc = (x.ty, 0)) := fun h h' => by simp only [Ex.typ]; rw [if_pos hm, if_neg h, if_neg h']
    cases acc
    · cases hac : x.accB
      · have HA := Lib.hid hac
        clear hm hac
        cases hty : (x.ty == 0)
        · have HY := Lib.hid hty
          have HE : Hid (x.typ false = (x.ty, 0)) := HV.out (by rw [HA.out]; simp) (by simpa using hty)
          clear hty
          go_enter Tryz.func129, Tryz.ntmps129
          go_wp2_with fail
          generalize World.alloc w _ = W at *
          have c0 := hR.cell 0
          have c1 := hR.cell 1
          have c2 := hR.cell 2
          go_wp2_with (first
            | (go_at_call 54; refine (May_c x _ _ _ (HX.out _ hW) (Nat.le_refl _)).mono ?_; rintro e w1 ⟨rfl, hb1⟩; rw [HM.out]; have hR1 := hR.below hb1 hR.lt; have d0 := hR1.cell 0; have d1 := hR1.cell 1; have d2 := hR1.cell 2)
            | (go_at_call 155; refine (accs_c x _ _ _ (HX.out _ (hW.trans (hb1.mono (by have := HS.out; omega)))) (Nat.le_refl _)).mono ?_; rintro e w2 ⟨rfl, hb2⟩; rw [HA.out]; have hR2 := hR1.below hb2 hR1.lt))
          have hb12 := hW.trans ((hb1.trans (hb2.mono hb1.size)).mono (by have := HS.out; omega))
          clear c0 c1 c2 d0 d1 d2
          have e0 := hR2.cell 0
          have e1 := hR2.cell 1
          have e2 := hR2.cell 2
          go_region_with (first
            | (go_at_call 157; refine (rules_c _).mono ?_; rintro e w3 ⟨rfl, hm3, hb3⟩; have hR3 := hR2.drew.below hb3 hR2.lt; have g0 := hR3.cell 0; have g1 := hR3.cell 1; have g2 := hR3.cell 2; have hb13 := hb12.drew.trans (hb3.mono hb12.size))
            | (go_at_call 156; refine (of_c x _ _ _ _ (HX.out _ hb13) hth.out (Nat.le_refl _) hm3).mono ?_; rintro e w4 ⟨rfl, hb4⟩))
          all_goals
            have hz := HY.out
            go_wp2_with fail
            go_ret2
            exact ⟨by rw [HE.out]; rfl, hb13.trans (hb4.mono hb13.size)⟩
        · have HY := Lib.hid hty
          have HE : Hid (x.typ false = (0, 91)) := HU.out (by rw [HA.out]; simp) (by simpa using hty)
          clear hty
          go_enter Tryz.func129, Tryz.ntmps129
          go_wp2_with fail
          generalize World.alloc w _ = W at *
          have c0 := hR.cell 0
          have c1 := hR.cell 1
          have c2 := hR.cell 2
          go_wp2_with (first
            | (go_at_call 54; refine (May_c x _ _ _ (HX.out _ hW) (Nat.le_refl _)).mono ?_; rintro e w1 ⟨rfl, hb1⟩; rw [HM.out]; have hR1 := hR.below hb1 hR.lt; have d0 := hR1.cell 0; have d1 := hR1.cell 1; have d2 := hR1.cell 2)
            | (go_at_call 155; refine (accs_c x _ _ _ (HX.out _ (hW.trans (hb1.mono (by have := HS.out; omega)))) (Nat.le_refl _)).mono ?_; rintro e w2 ⟨rfl, hb2⟩; rw [HA.out]; have hR2 := hR1.below hb2 hR1.lt))
          have hb12 := hW.trans ((hb1.trans (hb2.mono hb1.size)).mono (by have := HS.out; omega))
          clear c0 c1 c2 d0 d1 d2
          have e0 := hR2.cell 0
          have e1 := hR2.cell 1
          have e2 := hR2.cell 2
          go_region_with (first
            | (go_at_call 157; refine (rules_c _).mono ?_; rintro e w3 ⟨rfl, hm3, hb3⟩; have hR3 := hR2.drew.below hb3 hR2.lt; have g0 := hR3.cell 0; have g1 := hR3.cell 1; have g2 := hR3.cell 2; have hb13 := hb12.drew.trans (hb3.mono hb12.size))
            | (go_at_call 156; refine (of_c x _ _ _ _ (HX.out _ hb13) hth.out (Nat.le_refl _) hm3).mono ?_; rintro e w4 ⟨rfl, hb4⟩))
          all_goals
            have hz := HY.out
            go_wp2_with fail
            go_ret2
            exact ⟨by rw [HE.out]; rfl, hb13.trans (hb4.mono hb13.size)⟩
      · have HA := Lib.hid hac
        have HE : Hid (x.typ false = (0, 90)) := HT.out ⟨rfl, hac⟩
        clear hm hac
        go_enter Tryz.func129, Tryz.ntmps129
        go_wp2_with fail
        generalize World.alloc w _ = W at *
        have c0 := hR.cell 0
        have c1 := hR.cell 1
        have c2 := hR.cell 2
        go_wp2_with (first
          | (go_at_call 54; refine (May_c x _ _ _ (HX.out _ hW) (Nat.le_refl _)).mono ?_; rintro e w1 ⟨rfl, hb1⟩; rw [HM.out]; have hR1 := hR.below hb1 hR.lt; have d0 := hR1.cell 0; have d1 := hR1.cell 1; have d2 := hR1.cell 2)
          | (go_at_call 155; refine (accs_c x _ _ _ (HX.out _ (hW.trans (hb1.mono (by have := HS.out; omega)))) (Nat.le_refl _)).mono ?_; rintro e w2 ⟨rfl, hb2⟩; rw [HA.out]))
        go_ret2
        exact ⟨by rw [HE.out]; rfl, hW.trans ((hb1.trans (hb2.mono hb1.size)).mono (by have := HS.out; omega))⟩
    · clear hm
      cases hty : (x.ty == 0)
      · have HY := Lib.hid hty
        have HE : Hid (x.typ true = (x.ty, 0)) := HV.out (by simp) (by simpa using hty)
        clear hty
        go_enter Tryz.func129, Tryz.ntmps129
        go_wp2_with fail
        generalize World.alloc w _ = W at *
        have c0 := hR.cell 0
        have c1 := hR.cell 1
        have c2 := hR.cell 2
        go_wp2_with (go_at_call 54; refine (May_c x _ _ _ (HX.out _ hW) (Nat.le_refl _)).mono ?_; rintro e w1 ⟨rfl, hb1⟩; rw [HM.out]; have hR1 := hR.below hb1 hR.lt; have d0 := hR1.cell 0; have d1 := hR1.cell 1; have d2 := hR1.cell 2)
        have hb12 := hW.trans (hb1.mono (by have := HS.out; omega))
        clear c0 c1 c2 d0 d1 d2
        have e0 := hR1.cell 0
        have e1 := hR1.cell 1
        have e2 := hR1.cell 2
        go_region_with (first
          | (go_at_call 157; refine (rules_c _).mono ?_; rintro e w3 ⟨rfl, hm3, hb3⟩; have hR3 := hR1.drew.below hb3 hR1.lt; have g0 := hR3.cell 0; have g1 := hR3.cell 1; have g2 := hR3.cell 2; have hb13 := hb12.drew.trans (hb3.mono hb12.size))
          | (go_at_call 156; refine (of_c x _ _ _ _ (HX.out _ hb13) hth.out (Nat.le_refl _) hm3).mono ?_; rintro e w4 ⟨rfl, hb4⟩))
        all_goals
          have hz := HY.out
          go_wp2_with fail
          go_ret2
          exact ⟨by rw [HE.out]; rfl, hb13.trans (hb4.mono hb13.size)⟩
      · have HY := Lib.hid hty
        have HE : Hid (x.typ true = (0, 91)) := HU.out (by simp) (by simpa using hty)
        clear hty
        go_enter Tryz.func129, Tryz.ntmps129
        go_wp2_with fail
        generalize World.alloc w _ = W at *
        have c0 := hR.cell 0
        have c1 := hR.cell 1
        have c2 := hR.cell 2
        go_wp2_with (go_at_call 54; refine (May_c x _ _ _ (HX.out _ hW) (Nat.le_refl _)).mono ?_; rintro e w1 ⟨rfl, hb1⟩; rw [HM.out]; have hR1 := hR.below hb1 hR.lt; have d0 := hR1.cell 0; have d1 := hR1.cell 1; have d2 := hR1.cell 2)
        have hb12 := hW.trans (hb1.mono (by have := HS.out; omega))
        clear c0 c1 c2 d0 d1 d2
        have e0 := hR1.cell 0
        have e1 := hR1.cell 1
        have e2 := hR1.cell 2
        go_region_with (first
          | (go_at_call 157; refine (rules_c _).mono ?_; rintro e w3 ⟨rfl, hm3, hb3⟩; have hR3 := hR1.drew.below hb3 hR1.lt; have g0 := hR3.cell 0; have g1 := hR3.cell 1; have g2 := hR3.cell 2; have hb13 := hb12.drew.trans (hb3.mono hb12.size))
          | (go_at_call 156; refine (of_c x _ _ _ _ (HX.out _ hb13) hth.out (Nat.le_refl _) hm3).mono ?_; rintro e w4 ⟨rfl, hb4⟩))
        all_goals
          have hz := HY.out
          go_wp2_with fail
          go_ret2
          exact ⟨by rw [HE.out]; rfl, hb13.trans (hb4.mono hb13.size)⟩

end Go.Proofs.YtjbchkgkapccnaaGreatDoor

namespace Go.Proofs.YtjbchkgkapccnaaGreatDoor
open Go.RowKit
set_option linter.unusedVariables false

def Ex.isB (x : Ex) (acc : Bool) (ty : Int) : Bool := decide ((x.typ acc).2 = 0 ∧ (x.typ acc).1 = ty)

set_option maxHeartbeats 1000000 in
theorem Is_c (x : Ex) (acc : Bool) (ty : Int) (v : Value) (B : Nat) (w : World) (hv : ExAt w B v x) (hB : B ≤ w.heap.size) :
    Calls Tryz.prog 90 #[v, .bool acc, .int .u8 ty] w fun e w' => e = .returned (.bool (x.isB acc ty)) ∧ Below w.heap.size w w' := by
  obtain ⟨sv, rfl, hs⟩ := hv
  obtain ⟨a, cap, rfl, hcap, hmx⟩ := hs.slice
  have HX : Hid (ExAt (w.alloc (.cells #[.int .u8 x.op, .int .i64 x.n, .slice a x.args.length cap] 47)) (w.alloc (.cells #[.int .u8 x.op, .int .i64 x.n, .slice a x.args.length cap] 47)).heap.size (.agg #[.int .u8 x.op, .int .i64 x.n, .slice a x.args.length cap]) x) :=
    ⟨_, rfl, ((hs.mono hB).keep ((Below.refl _ _).alloc (Nat.le_refl _) _)).mono (by simp)⟩
  clear hs hmx hcap
  cases h2 : ((x.typ acc).2 == 0)
  · have HE : Hid (x.isB acc ty = false) := by simp [Hid, Ex.isB]; intro h; rw [h] at h2; simp at h2
    have H2 := Lib.hid h2
    clear h2
    go_enter Tryz.func90, Tryz.ntmps90
    go_wp2_with (go_at_call 129; refine (Of_c x acc _ _ _ HX.out (Nat.le_refl _)).mono ?_; rintro e w1 ⟨rfl, hb1⟩; have h2 := H2.out)
    go_ret
    exact ⟨ret_bool HE.out.symm, ((Below.refl _ _).alloc (Nat.le_refl _) _).trans (hb1.mono (by simp))⟩
  · have H2 := Lib.hid h2
    have h2' : (x.typ acc).2 = 0 := by simpa using h2
    clear h2
    cases h3 : ((x.typ acc).1 == ty)
    all_goals
      have HE : Hid (x.isB acc ty = ((x.typ acc).1 == ty)) := by simp only [Hid, Ex.isB, h2', true_and]; rfl
      have H3 := Lib.hid h3
    all_goals
      clear h2' h3
      go_enter Tryz.func90, Tryz.ntmps90
      go_wp2_with (go_at_call 129; refine (Of_c x acc _ _ _ HX.out (Nat.le_refl _)).mono ?_; rintro e w1 ⟨rfl, hb1⟩; have h2 := H2.out; have h3 := H3.out)
      go_ret
      exact ⟨ret_bool (by rw [HE.out, H3.out]), ((Below.refl _ _).alloc (Nat.le_refl _) _).trans (hb1.mono (by simp))⟩

end Go.Proofs.YtjbchkgkapccnaaGreatDoor

namespace Go.Proofs.YtjbchkgkapccnaaGreatDoor
open Go.RowKit
set_option linter.unusedVariables false

theorem findRow_mem {r : Row} : ∀ {l : List (Row × Int)} {i : Nat} {q : Nat × Int}, findRow r l i = some q → ∃ p ∈ l, p.1 = r ∧ p.2 = q.2
  | [], i, q, h => by simp [findRow] at h
  | (s, t) :: l, i, q, h => by
    simp only [findRow] at h
    split at h
    · rename_i hs
      simp only [Option.some.injEq] at h
      subst h
      exact ⟨(s, t), by simp, hs.symm, rfl⟩
    · obtain ⟨p, hp, h1, h2⟩ := findRow_mem h
      exact ⟨p, by simp [hp], h1, h2⟩
theorem kv8_vals : ∀ p ∈ kv8, p.2 = 1 ∨ p.2 = 2 := by decide +kernel
theorem getRow_vals (r : Row) : getRow r kv8 = 0 ∨ getRow r kv8 = 1 ∨ getRow r kv8 = 2 := by
  unfold getRow
  cases h : findRow r kv8 0 with
  | none => exact .inl rfl
  | some q =>
    obtain ⟨p, hp, _, h2⟩ := findRow_mem h
    have := kv8_vals p hp
    rw [h2] at this
    exact .inr this
theorem Ex.ty_vals (x : Ex) : x.ty = 0 ∨ x.ty = 1 ∨ x.ty = 2 := by
  rw [Ex.ty_eq]
  split
  · exact .inl rfl
  · exact getRow_vals _

theorem mayB_succ : ∀ (k : Nat) (x : Ex), mayB k x = true → mayB (k + 1) x = true
  | 0, x, h => by simp [mayB] at h
  | k + 1, x, h => by
    simp only [mayB, Bool.and_eq_true, List.all_eq_true] at h
    show (shapeB x && x.args.all (mayB (k + 1))) = true
    rw [h.1, Bool.true_and, List.all_eq_true]
    exact fun a ha => mayB_succ k a (h.2 a ha)
theorem mayT_args {x : Ex} (h : x.mayT = true) : shapeB x = true ∧ ∀ a ∈ x.args, mayB 15 a = true := by
  have h' : (shapeB x && x.args.all (mayB 15)) = true := h
  rw [Bool.and_eq_true, List.all_eq_true] at h'
  exact h'

theorem Exs.accB_mem : ∀ (l : List Ex), Exs.accB l = false → ∀ a ∈ l, a.accB = false
  | x :: l, h, a, ha => by
    simp only [Exs.accB, Bool.or_eq_false_iff] at h
    rcases List.mem_cons.1 ha with rfl | ha
    · exact h.1
    · exact Exs.accB_mem l h.2 a ha
theorem Exs.tys_mem : ∀ (l : List Ex) (ts : List Int), Exs.tys l = some ts → ∀ a ∈ l, a.ty ≠ 0
  | x :: l, ts, h, a, ha => by
    simp only [Exs.tys] at h
    split at h
    · simp at h
    · rename_i hx
      cases hl : Exs.tys l with
      | none => rw [hl] at h; simp at h
      | some ts' =>
        rcases List.mem_cons.1 ha with rfl | ha
        · exact hx
        · exact Exs.tys_mem l ts' hl a ha
theorem Ex.ty_args {x : Ex} (h : x.ty ≠ 0) : ∀ a ∈ x.args, a.ty ≠ 0 := by
  rw [Ex.ty_eq] at h
  cases hl : Exs.tys x.args with
  | none => rw [hl] at h; exact absurd rfl h
  | some ts => exact Exs.tys_mem _ ts hl

/-- What 'typ' tells, way by way. -/
theorem typ_ok {x : Ex} {acc : Bool} (h : (x.typ acc).2 = 0) : x.mayT = true ∧ (acc = true ∨ x.accB = false) ∧ x.ty ≠ 0 ∧ (x.typ acc).1 = x.ty := by
  unfold Ex.typ at h ⊢
  by_cases hm : x.mayT = true
  · rw [if_pos hm] at h ⊢
    by_cases ha : acc = false ∧ x.accB = true
    · rw [if_pos ha] at h; simp at h
    · rw [if_neg ha] at h ⊢
      by_cases ht : x.ty = 0
      · rw [if_pos ht] at h; simp at h
      · rw [if_neg ht]
        refine ⟨hm, ?_, ht, rfl⟩
        cases acc <;> cases hx : x.accB <;> simp_all
  · rw [if_neg hm] at h; simp at h
theorem typ_err {x : Ex} {acc : Bool} (h : (x.typ acc).2 ≠ 0) : (x.typ acc).1 = 0 := by
  unfold Ex.typ at h ⊢
  repeat' split
  all_goals simp_all
theorem typ_mk {x : Ex} {acc : Bool} (h1 : x.mayT = true) (h2 : acc = true ∨ x.accB = false) (h3 : x.ty ≠ 0) : x.typ acc = (x.ty, 0) := by
  unfold Ex.typ
  rw [if_pos h1, if_neg (by rintro ⟨rfl, h⟩; rcases h2 with h2 | h2 <;> simp_all), if_neg h3]

/-- KindParts. -/
theorem typ_parts {x : Ex} {acc : Bool} (h : (x.typ acc).2 = 0) : x.typ true = ((x.typ acc).1, 0) ∧ ((x.typ acc).1 = 1 ∨ (x.typ acc).1 = 2) ∧ ∀ a ∈ x.args, (a.typ acc).2 = 0 := by
  obtain ⟨h1, h2, h3, h4⟩ := typ_ok h
  refine ⟨by rw [h4]; exact typ_mk h1 (.inl rfl) h3, ?_, fun a ha => ?_⟩
  · rw [h4]
    rcases Ex.ty_vals x with h0 | h0
    · exact absurd h0 h3
    · exact h0
  · have hacc : acc = true ∨ a.accB = false := by
      rcases h2 with h2 | h2
      · exact .inl h2
      · rw [Ex.accB_eq, Bool.or_eq_false_iff] at h2
        exact .inr (Exs.accB_mem _ h2.2 a ha)
    rw [typ_mk (mayB_succ 15 a ((mayT_args h1).2 a ha)) hacc (Ex.ty_args h3 a ha)]

end Go.Proofs.YtjbchkgkapccnaaGreatDoor

namespace Go.Proofs.YtjbchkgkapccnaaGreatDoor
open Go.RowKit
set_option linter.unusedVariables false

theorem ty_if (a x y : Ex) : (Ex.mk 18 0 [a, x, y]).ty = if a.ty = 0 then 0 else if x.ty = 0 then 0 else if y.ty = 0 then 0 else getRow ⟨18, a.ty, x.ty, y.ty⟩ kv8 := by
  simp only [Ex.ty, Exs.tys]
  by_cases ha : a.ty = 0
  · rw [if_pos ha, if_pos ha]
  · rw [if_neg ha, if_neg ha]
    by_cases hx : x.ty = 0
    · rw [if_pos hx, if_pos hx]; rfl
    · rw [if_neg hx, if_neg hx]
      by_cases hy : y.ty = 0
      · rw [if_pos hy, if_pos hy]; rfl
      · rw [if_neg hy, if_neg hy]; rfl
theorem row_swap : ∀ a ∈ ([0, 1, 2] : List Int), ∀ x ∈ ([0, 1, 2] : List Int), ∀ y ∈ ([0, 1, 2] : List Int), getRow ⟨18, a, x, y⟩ kv8 = getRow ⟨18, a, y, x⟩ kv8 := by decide +kernel
theorem row_if : ∀ a ∈ ([0, 1, 2] : List Int), ∀ x ∈ ([0, 1, 2] : List Int), ∀ y ∈ ([0, 1, 2] : List Int), getRow ⟨18, a, x, y⟩ kv8 ≠ 0 → a = 2 ∧ x = y ∧ getRow ⟨18, a, x, y⟩ kv8 = x := by decide +kernel
theorem Ex.ty_mem (x : Ex) : x.ty ∈ ([0, 1, 2] : List Int) := by
  rcases Ex.ty_vals x with h | h | h <;> rw [h] <;> simp

theorem ty_swap (a x y : Ex) : (Ex.mk 18 0 [a, x, y]).ty = (Ex.mk 18 0 [a, y, x]).ty := by
  rw [ty_if, ty_if]
  by_cases ha : a.ty = 0
  · rw [if_pos ha, if_pos ha]
  · rw [if_neg ha, if_neg ha]
    by_cases hx : x.ty = 0
    · rw [if_pos hx]
      by_cases hy : y.ty = 0
      · rw [if_pos hy]
      · rw [if_neg hy, if_pos hx]
    · rw [if_neg hx]
      by_cases hy : y.ty = 0
      · rw [if_pos hy, if_pos hy]
      · rw [if_neg hy, if_neg hy, if_neg hx]
        exact row_swap _ (Ex.ty_mem a) _ (Ex.ty_mem x) _ (Ex.ty_mem y)
theorem mayT_swap (a x y : Ex) : (Ex.mk 18 0 [a, x, y]).mayT = (Ex.mk 18 0 [a, y, x]).mayT := by
  show (shapeB (Ex.mk 18 0 [a, x, y]) && [a, x, y].all (mayB 15)) = (shapeB (Ex.mk 18 0 [a, y, x]) && [a, y, x].all (mayB 15))
  have h1 : shapeB (Ex.mk 18 0 [a, x, y]) = true := by simp [shapeB, Ex.op, Ex.n, Ex.args, manyN]
  have h2 : shapeB (Ex.mk 18 0 [a, y, x]) = true := by simp [shapeB, Ex.op, Ex.n, Ex.args, manyN]
  rw [h1, h2]
  simp only [List.all_cons, List.all_nil]
  cases mayB 15 a <;> cases mayB 15 x <;> cases mayB 15 y <;> rfl
theorem typ_swap (a x y : Ex) : (Ex.mk 18 0 [a, x, y]).typ true = (Ex.mk 18 0 [a, y, x]).typ true := by
  unfold Ex.typ
  rw [mayT_swap a x y, ty_swap a x y]
  simp
theorem typ_if {a x y : Ex} (h : ((Ex.mk 18 0 [a, x, y]).typ true).2 = 0) : a.isB true 2 = true ∧ x.mayT = true ∧ (x.typ true) = (((Ex.mk 18 0 [a, x, y]).typ true).1, 0) := by
  obtain ⟨h1, _, h3, h4⟩ := typ_ok h
  have hm := (mayT_args h1).2
  have hmx : x.mayT = true := mayB_succ 15 x (hm x (by simp [Ex.args]))
  have hma : a.mayT = true := mayB_succ 15 a (hm a (by simp [Ex.args]))
  have h3' := h3
  rw [ty_if] at h3'
  by_cases ha : a.ty = 0
  · rw [if_pos ha] at h3'; exact absurd rfl h3'
  · rw [if_neg ha] at h3'
    by_cases hx : x.ty = 0
    · rw [if_pos hx] at h3'; exact absurd rfl h3'
    · rw [if_neg hx] at h3'
      by_cases hy : y.ty = 0
      · rw [if_pos hy] at h3'; exact absurd rfl h3'
      · rw [if_neg hy] at h3'
        obtain ⟨e1, e2, e3⟩ := row_if _ (Ex.ty_mem a) _ (Ex.ty_mem x) _ (Ex.ty_mem y) h3'
        refine ⟨?_, hmx, ?_⟩
        · unfold Ex.isB
          rw [typ_mk hma (.inl rfl) ha]
          exact decide_eq_true ⟨rfl, e1⟩
        · rw [typ_mk hmx (.inl rfl) hx, h4, ty_if, if_neg ha, if_neg hx, if_neg hy, e3]
theorem typ_num (n : Int) : (Ex.mk 1 n []).typ false = if 0 ≤ n then (1, 0) else (0, 2) := by
  have hm : (Ex.mk 1 n []).mayT = decide (0 ≤ n) := by
    show (shapeB (Ex.mk 1 n []) && [].all (mayB 15)) = _
    simp [shapeB, Ex.op, Ex.n, Ex.args, manyN]
  unfold Ex.typ
  rw [hm]
  have ht : (Ex.mk 1 n []).ty = 1 := by
    simp only [Ex.ty, Exs.tys]
    decide +kernel
  have ha : (Ex.mk 1 n []).accB = false := by simp [Ex.accB, Exs.accB]
  rw [ht, ha]
  by_cases h : 0 ≤ n
  · rw [if_pos h, if_pos (by simpa using h)]; simp
  · rw [if_neg h, if_neg (by simpa using h)]

/-- A number, or a truth. -/
def sideX (b : Bool) : Ex := if b then .mk 12 0 [.mk 2 0 [], .mk 3 0 []] else .mk 1 1 []
def signX (op : Int) (a b : Bool) : Ex := .mk op 0 [sideX a, sideX b]
/-- The type that a sign tells. -/
def sgWant (op : Int) (a b : Bool) : Int := if a != b then 0 else if op = 14 ∨ op = 15 ∨ (a = decide (16 ≤ op) ∧ 12 ≤ op) then 2 else if op ≤ 11 ∧ a = false then 1 else 0
theorem sign_typ : ∀ op ∈ ([7, 8, 9, 10, 11, 12, 13, 14, 15, 16, 17] : List Int), ∀ a b : Bool, (signX op a b).typ false = (sgWant op a b, if sgWant op a b = 0 then 91 else 0) := by decide +kernel
theorem sign_none (op : Int) (h : op < 7 ∨ 17 < op) (a b : Bool) : (signX op a b).typ false = (0, 2) := by
  have hs : shapeB (signX op a b) = false := by
    unfold shapeB
    rw [decide_eq_false_iff_not]
    intro h'
    have h2 := h'.1
    simp only [signX, Ex.op, Ex.args, List.length_cons, List.length_nil] at h2
    unfold manyN at h2
    repeat' split at h2
    all_goals omega
  have hm : (signX op a b).mayT = false := by
    show (shapeB _ && _) = false
    rw [hs, Bool.false_and]
  unfold Ex.typ
  rw [hm]
  rfl

end Go.Proofs.YtjbchkgkapccnaaGreatDoor
