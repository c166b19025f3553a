/-
  The map of kind's rules: look-up and store.
-/
import Derived.Test.YtfieoehchghiiaaK2
import Derived.Maps.Own
import Derived.Maps.OwnOps
namespace Go.Proofs.Ytfieoehchghiiaa
open Go.RowKit
set_option linter.unusedVariables false

def MapIs (w : World) (b : Nat) (kv : List (Row × Int)) : Prop := ∃ es clock, w.heap[b]? = some (.map es clock) ∧ EntsAre es.toList kv

namespace MapIs
variable {w w' : World} {b : Nat} {kv : List (Row × Int)}
theorem lt (h : MapIs w b kv) : b < w.heap.size := by obtain ⟨es, clock, h, _⟩ := h; exact (Array.getElem?_eq_some_iff.1 h).1
theorem fr {S : Nat → Prop} (h : MapIs w b kv) (hf : Fr S w w') (hs : ¬ S b) : MapIs w' b kv := by obtain ⟨es, clock, h1, h2⟩ := h; exact ⟨es, clock, hf.heap_at h1 hs, h2⟩
theorem below {B : Nat} (h : MapIs w b kv) (hf : Below B w w') (hb : b < B) : MapIs w' b kv := by obtain ⟨es, clock, h1, h2⟩ := h; exact ⟨es, clock, (hf.block b hb).trans h1, h2⟩
theorem other (h : MapIs w b kv) {p : Addr} (hp : b ≠ p.block) (u : Value) : MapIs (w.setCell p u) b kv := by obtain ⟨es, clock, h1, h2⟩ := h; exact ⟨es, clock, (heap_setCell_other w p b u hp).trans h1, h2⟩
theorem alloc (h : MapIs w b kv) (o : Obj) : MapIs (w.alloc o) b kv := by have := h.lt; obtain ⟨es, clock, h1, h2⟩ := h; exact ⟨es, clock, (alloc_old w o b this).trans h1, h2⟩
end MapIs

theorem findKey_row (r : Row) (w : World) (kv : List (Row × Int)) (es : List MapEntry) (h : EntsAre es kv) :
    (Instr.findKey 144 r.v es).run Try.prog w = .ok ((findRow r kv 0).map (fun p => (p.1, Value.int .u8 p.2))) w := by
  have ha := findAsking_row r w kv es 0 h
  unfold Instr.findKey
  cases es with
  | nil =>
    cases kv with
    | nil => simp [run_underlying Try.underlying144, Instr.findNow, findRow, Result.andThen]
    | cons p kv => simp [EntsAre] at h
  | cons e es =>
    simp [run_underlying Try.underlying144, Instr.findNow, Instr.sameNow, Result.andThen, ha]

theorem lookup_row {w : World} {b : Nat} {kv : List (Row × Int)} (h : MapIs w b kv) (r : Row) :
    (Instr.lookup 118 (.map (some b)) r.v false).run Try.prog w = .ok (.int .u8 (getRow r kv)) w := by
  obtain ⟨es, clock, h1, h2⟩ := h
  have hz : (zeroValue 5).run Try.prog w = .ok (.int .u8 0) w := by go_simp
  unfold Instr.lookup getRow
  cases hf : findRow r kv 0 with
  | none => simp [run_underlying Try.underlying118, MapKept.run_getObj_map h1, run_checkKey_row, findKey_row r w kv _ h2, hf, hz, Result.andThen]
  | some p => simp [run_underlying Try.underlying118, MapKept.run_getObj_map h1, run_checkKey_row, findKey_row r w kv _ h2, hf, Result.andThen]

theorem update_row {w : World} {b : Nat} {kv : List (Row × Int)} (h : MapIs w b kv) (r : Row) (x : Int) (hnew : findRow r kv 0 = none) :
    ∃ w', (Instr.mapUpdate 118 (.map (some b)) r.v (.int .u8 x)).run Try.prog w = .ok () w' ∧ MapIs w' b (kv ++ [(r, x)]) ∧ Fr (fun k => k = b) w w' := by
  have hlt := h.lt
  obtain ⟨es, clock, h1, h2⟩ := h
  refine ⟨ChangeMaps.setBlock w b (.map (es.push ⟨r.v, .int .u8 x, clock⟩) (clock + 1)), ?_, ⟨es.push ⟨r.v, .int .u8 x, clock⟩, clock + 1, by simp [ChangeMaps.setBlock, hlt], ?_⟩, ⟨rfl, rfl, rfl, by simp [ChangeMaps.setBlock], fun k hk hs => ?_⟩⟩
  · unfold Instr.mapUpdate
    simp [run_underlying Try.underlying118, MapKept.run_getObj_map h1, run_checkKey_row, findKey_row r w kv _ h2, hnew, MapKept.run_setObj_map _ h1, Result.andThen, ChangeMaps.setBlock]
  · simp only [EntsAre, Array.toList_push, List.map_append, List.map_cons, List.map_nil] at h2 ⊢
    rw [h2]
  · simp [ChangeMaps.setBlock, Ne.symm hs]

theorem wpList_lookup_row (w : World) {ops : Array Oper} {rest : List Oper} {o : Oper} {a : Act} {Q : Exit → Act → World → Prop}
    (hg : o.guard = none) (m x : Operand) (hop : o.op = Op.lookup 118 m x false) (b : Nat) (kv : List (Row × Int)) (hm : a.eval m = .map (some b)) (h : MapIs w b kv) (r : Row) (hx : a.eval x = r.v)
    (hK : wpList Try.prog ops Q rest (a.put o.dst (.int .u8 (getRow r kv))) w) : wpList Try.prog ops Q (o :: rest) a w := by
  refine wpList_plain hg fun K' hK' => ?_
  have hrun := lookup_row h r
  unfold Oper.wp
  simp [execOp, hop, hm, hx, hrun, Result.andThen]
  exact hK' _ _ hK

theorem wpList_update_row (w : World) {ops : Array Oper} {rest : List Oper} {o : Oper} {a : Act} {Q : Exit → Act → World → Prop}
    (hg : o.guard = none) (m x v : Operand) (hop : o.op = Op.mapUpdate 118 m x v) (b : Nat) (kv : List (Row × Int)) (hm : a.eval m = .map (some b)) (h : MapIs w b kv) (r : Row) (hx : a.eval x = r.v)
    (y : Int) (hv : a.eval v = .int .u8 y) (hnew : findRow r kv 0 = none)
    (hK : ∀ w', MapIs w' b (kv ++ [(r, y)]) → Fr (fun k => k = b) w w' → wpList Try.prog ops Q rest (a.put o.dst undef) w') : wpList Try.prog ops Q (o :: rest) a w := by
  refine wpList_plain hg fun K' hK' => ?_
  obtain ⟨w', hrun, r1, r2⟩ := update_row h r y hnew
  unfold Oper.wp
  simp [execOp, hop, hm, hx, hv, hrun, Result.andThen]
  exact hK' _ _ (hK w' r1 r2)

end Go.Proofs.Ytfieoehchghiiaa
