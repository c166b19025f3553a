/-
  A row of nodes that grows.
-/
import Derived.Test.YtfieoehchghiiaaC8
namespace Go.Proofs.Ytfieoehchghiiaa
open Go.RowKit
set_option linter.unusedVariables false

/-- Places lie where the slice says, from a block's start, in a block of P. -/
def InsP (w : World) (P : Nat → Prop) (l : List Int) (v : Value) : Prop :=
  (l = [] ∧ v = .slice none 0 0) ∨ ∃ g cap, v = .slice (some ⟨g, 0, none⟩) l.length cap ∧ P g ∧ l.length ≤ cap ∧ cap ≤ maxLen ∧ ∀ j, j < l.length → w.cell? ⟨g, j, none⟩ = (l.map (Value.int .i64))[j]?
theorem InsP.keep {w w' : World} {P Q : Nat → Prop} {l : List Int} {v : Value} (h : InsP w P l v) (hPQ : ∀ b, P b → Q b) (hk : ∀ b, P b → w'.heap[b]? = w.heap[b]?) : InsP w' Q l v := by
  refine h.imp id ?_
  rintro ⟨g, cap, rfl, hp, h1, h2, h3⟩
  exact ⟨g, cap, rfl, hPQ g hp, h1, h2, fun j hj => (World.cell?_of_block (hk g hp)).trans (h3 j hj)⟩
theorem InsP.sl {w : World} {P : Nat → Prop} {B : Nat} {l : List Int} {v : Value} (h : InsP w P l v) (hP : ∀ b, P b → b < B) : Sl w B 1 v l.length (l.map (Value.int .i64)) := by
  rcases h with ⟨rfl, rfl⟩ | ⟨g, cap, rfl, hp, h1, h2, h3⟩
  · exact Sl.nil w B 1
  · exact ⟨by simp, _, cap, rfl, h1, h2, .inr ⟨g, 0, rfl, hP g hp, fun j hj => by rw [Nat.zero_add]; exact h3 j (by omega)⟩⟩
/-- What append has made of places. -/
theorem InsP.of_own {w : World} {B0 : Nat} {e : TypeId} {l : List Int} {v : Value} (h : w.ownsRow B0 e 1 v l.length (l.map (Value.int .i64))) : InsP w (fun b => B0 ≤ b ∧ b < w.heap.size) l v := by
  obtain ⟨h1, h2⟩ := h
  rcases h2 with ⟨rfl, h0⟩ | ⟨g, cap, cur, rfl, hb, hg, hn, hcp, hsz, ht⟩
  · exact .inl ⟨List.length_eq_zero_iff.1 h0, rfl⟩
  · refine .inr ⟨g, cap, rfl, ⟨hb, (Array.getElem?_eq_some_iff.1 hg).1⟩, hn, hcp, fun j hj => ?_⟩
    rw [cell_of_row w g j cur e (0, 0) hg, ← ht, List.getElem?_take, if_pos (by omega)]
    simp

/-- A row of nodes that is grown, node by node. -/
structure NRow (B0 : Nat) (wx : World) (l : List Nd) (av : Value) (cs : List Value) (ivs svs : Nat → Value) : Prop where
  own : wx.ownsRow B0 37 7 av l.length cs
  cells : ∀ i (hi : i < l.length), cs[i * 7]? = some (.string (l[i]'hi).uid) ∧ cs[i * 7 + 1]? = some (.int .u8 (l[i]'hi).kind) ∧ cs[i * 7 + 2]? = some (ivs i) ∧ cs[i * 7 + 3]? = some (.int .u8 (l[i]'hi).x.op) ∧ cs[i * 7 + 4]? = some (.int .i64 (l[i]'hi).x.n) ∧ cs[i * 7 + 5]? = some (svs i) ∧ cs[i * 7 + 6]? = some (.int .i64 (l[i]'hi).n)
  sub : ∀ i (hi : i < l.length), (l[i]'hi).uid.size ≤ maxLen ∧ InsP wx (fun b => B0 ≤ b ∧ b < wx.heap.size ∧ some b ≠ av.ownBlock) (l[i]'hi).ins (ivs i) ∧ ArgsP wx (fun b => B0 ≤ b ∧ b < wx.heap.size ∧ some b ≠ av.ownBlock) (l[i]'hi).x.args (svs i)
theorem NRow.nil (B0 : Nat) (w : World) (ivs svs : Nat → Value) : NRow B0 w [] (.slice none 0 0) [] ivs svs := ⟨⟨by simp, .inl ⟨rfl, rfl⟩⟩, fun i hi => absurd hi (Nat.not_lt_zero _), fun i hi => absurd hi (Nat.not_lt_zero _)⟩
theorem NRow.keepB {B0 : Nat} {wx wy : World} {l : List Nd} {av : Value} {cs : List Value} {ivs svs : Nat → Value} (h : NRow B0 wx l av cs ivs svs) (hs : wx.heap.size ≤ wy.heap.size) (hk : ∀ b, B0 ≤ b → b < wx.heap.size → wy.heap[b]? = wx.heap[b]?) : NRow B0 wy l av cs ivs svs := by
  refine ⟨?_, h.cells, fun i hi => ⟨(h.sub i hi).1, (h.sub i hi).2.1.keep (fun b hb => ⟨hb.1, Nat.lt_of_lt_of_le hb.2.1 hs, hb.2.2⟩) (fun b hb => hk b hb.1 hb.2.1), (h.sub i hi).2.2.keep (fun b hb => ⟨hb.1, Nat.lt_of_lt_of_le hb.2.1 hs, hb.2.2⟩) (fun b hb => hk b hb.1 hb.2.1)⟩⟩
  obtain ⟨q1, q2⟩ := h.own
  refine ⟨q1, q2.imp id ?_⟩
  rintro ⟨g, cap, cur, hv, hb, hg, r⟩
  exact ⟨g, cap, cur, hv, hb, (hk g hb (Array.getElem?_eq_some_iff.1 hg).1).trans hg, r⟩
/-- What stands there reads as nodes. -/
theorem NRow.nodes {B0 B : Nat} {wx : World} {l : List Nd} {av : Value} {cs : List Value} {ivs svs : Nat → Value} (h : NRow B0 wx l av cs ivs svs) (hB : wx.heap.size ≤ B) : NodesAt wx B l av := by
  obtain ⟨⟨h1, h2⟩, hc, hs⟩ := h
  rcases h2 with ⟨rfl, h0⟩ | ⟨g, cap, cur, rfl, hb, hg, hn, hcp, hsz, ht⟩
  · exact ⟨none, 0, by rw [h0], by omega, Nat.zero_le _, .inl h0⟩
  · have hlt : g < wx.heap.size := (Array.getElem?_eq_some_iff.1 hg).1
    have cell : ∀ q, q < l.length * 7 → wx.cell? ⟨g, 0 + q, none⟩ = cs[q]? := fun q hq => by
      rw [Nat.zero_add, cell_of_row wx g q cur 37 (0, 0) hg, ← ht, List.getElem?_take, if_pos hq]
      simp
    refine ⟨_, cap, rfl, hn, hcp, .inr ⟨g, 0, rfl, by omega, fun j hj => ?_⟩⟩
    obtain ⟨c0, c1, c2, c3, c4, c5, c6⟩ := hc j hj
    obtain ⟨s0, s1, s2⟩ := hs j hj
    exact ⟨s0, ivs j, svs j, (cell (j * 7) (by omega)).trans c0, (cell (j * 7 + 1) (by omega)).trans c1, (cell (j * 7 + 2) (by omega)).trans c2, (cell (j * 7 + 3) (by omega)).trans c3, (cell (j * 7 + 4) (by omega)).trans c4,
      (cell (j * 7 + 5) (by omega)).trans c5, (cell (j * 7 + 6) (by omega)).trans c6, s1.sl (fun b hb => Nat.lt_of_lt_of_le hb.2.1 hB), s2.toAt (fun b hb => Nat.lt_of_lt_of_le hb.2.1 hB)⟩

/-- One more. -/
theorem NRow.snoc {B0 : Nat} {wx w4 w5 : World} {l : List Nd} {av : Value} {cs : List Value} {ivs svs : Nat → Value} {g capg : Nat} {y : Nd} {iv sv : Value} {o : Obj} (h : NRow B0 w4 l av cs ivs svs) (hx : ∀ q, av.ownBlock = some q → q < wx.heap.size) (hxs : wx.heap.size ≤ w4.heap.size) (hB : B0 ≤ wx.heap.size)
    (hu : y.uid.size ≤ maxLen) (hi : InsP w4 (fun b => wx.heap.size ≤ b ∧ b < w4.heap.size) y.ins iv) (hy : ArgsP w4 (fun b => wx.heap.size ≤ b ∧ b < w4.heap.size) y.x.args sv) (hg : (w4.alloc o).grownBy w5 av.ownBlock) (hat : av.ownBlock = some g ∨ g = (w4.alloc o).heap.size) (hlt : g < w5.heap.size)
    (hown : w5.ownsRow B0 37 7 (.slice (some ⟨g, 0, none⟩) (l.length + 1) capg) (l.length + 1) (cs ++ [.string y.uid, .int .u8 y.kind, iv, .int .u8 y.x.op, .int .i64 y.x.n, sv, .int .i64 y.n])) :
    NRow B0 w5 (l ++ [y]) (.slice (some ⟨g, 0, none⟩) (l.length + 1) capg) (cs ++ [.string y.uid, .int .u8 y.kind, iv, .int .u8 y.x.op, .int .i64 y.x.n, sv, .int .i64 y.n]) (fun i => if i = l.length then iv else ivs i) (fun i => if i = l.length then sv else svs i) := by
  have hl : (l ++ [y]).length = l.length + 1 := by simp
  have hcl : cs.length = l.length * 7 := h.own.1
  have hsz : (w4.alloc o).heap.size = w4.heap.size + 1 := by simp
  have hgs := hg.size
  have keepB : ∀ b, b < w4.heap.size → some b ≠ av.ownBlock → w5.heap[b]? = w4.heap[b]? := fun b hb hn => (hg.block b (by omega) hn).trans (alloc_old w4 o b hb)
  have old : ∀ b, (B0 ≤ b ∧ b < w4.heap.size ∧ some b ≠ av.ownBlock) → B0 ≤ b ∧ b < w5.heap.size ∧ some b ≠ (Value.slice (some ⟨g, 0, none⟩) (l.length + 1) capg).ownBlock := fun b hb => ⟨hb.1, by have := hb.2.1; omega, by
    simp only [Value.ownBlock, ne_eq, Option.some.injEq]
    intro e
    rcases hat with h1 | h1
    · exact hb.2.2 (by rw [h1, e])
    · have := hb.2.1; omega⟩
  have new : ∀ b, (wx.heap.size ≤ b ∧ b < w4.heap.size) → B0 ≤ b ∧ b < w5.heap.size ∧ some b ≠ (Value.slice (some ⟨g, 0, none⟩) (l.length + 1) capg).ownBlock := fun b hb => ⟨by have := hb.1; omega, by have := hb.2; omega, by
    simp only [Value.ownBlock, ne_eq, Option.some.injEq]
    intro e
    rcases hat with h1 | h1
    · have := hx g h1; have := hb.1; omega
    · have := hb.2; omega⟩
  have keepN : ∀ b, (wx.heap.size ≤ b ∧ b < w4.heap.size) → w5.heap[b]? = w4.heap[b]? := fun b hb => keepB b hb.2 (fun e => by have := hx b e.symm; have := hb.1; omega)
  refine ⟨by rw [hl]; exact hown, fun i hi' => ?_, fun i hi' => ?_⟩
  · by_cases hil : i < l.length
    · obtain ⟨c0, c1, c2, c3, c4, c5, c6⟩ := h.cells i hil
      simp only [if_neg (show i ≠ l.length by omega)]
      rw [List.getElem_append_left hil]
      have ap : ∀ q u, cs[q]? = some u → (cs ++ [Value.string y.uid, .int .u8 y.kind, iv, .int .u8 y.x.op, .int .i64 y.x.n, sv, .int .i64 y.n])[q]? = some u := fun q u hq => by
        rw [List.getElem?_append_left (List.getElem?_eq_some_iff.1 hq).1]; exact hq
      exact ⟨ap _ _ c0, ap _ _ c1, ap _ _ c2, ap _ _ c3, ap _ _ c4, ap _ _ c5, ap _ _ c6⟩
    · obtain rfl : i = l.length := by omega
      rw [List.getElem_append_right (Nat.le_refl _)]
      have ap : ∀ q, (cs ++ [Value.string y.uid, .int .u8 y.kind, iv, .int .u8 y.x.op, .int .i64 y.x.n, sv, .int .i64 y.n])[l.length * 7 + q]? = [Value.string y.uid, .int .u8 y.kind, iv, .int .u8 y.x.op, .int .i64 y.x.n, sv, .int .i64 y.n][q]? := fun q => by
        rw [List.getElem?_append_right (by omega), hcl]; congr 1; omega
      have a0 := ap 0
      rw [Nat.add_zero] at a0
      simp only [Nat.sub_self, List.getElem_cons_zero, if_true]
      exact ⟨a0, ap 1, ap 2, ap 3, ap 4, ap 5, ap 6⟩
  · by_cases hil : i < l.length
    · simp only [if_neg (show i ≠ l.length by omega)]
      rw [List.getElem_append_left hil]
      obtain ⟨s0, s1, s2⟩ := h.sub i hil
      exact ⟨s0, s1.keep old (fun b hb => keepB b hb.2.1 hb.2.2), s2.keep old (fun b hb => keepB b hb.2.1 hb.2.2)⟩
    · obtain rfl : i = l.length := by omega
      rw [List.getElem_append_right (Nat.le_refl _)]
      simp only [Nat.sub_self, List.getElem_cons_zero, if_true]
      exact ⟨hu, hi.keep new keepN, hy.keep new keepN⟩

end Go.Proofs.Ytfieoehchghiiaa
