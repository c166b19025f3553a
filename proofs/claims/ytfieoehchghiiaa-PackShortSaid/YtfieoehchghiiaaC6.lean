/-
  The walk of pack.Take's closure that reads expressions: a step.
-/
import Derived.Test.YtfieoehchghiiaaC5
import Derived.Deep.AppendLies
namespace Go.Proofs.Ytfieoehchghiiaa
open Go.RowKit
set_option linter.unusedVariables false

def TakePost (k : Nat) (be bs : Nat) (p : Rd) (w : World) (e : Ending) (w' : World) : Prop :=
  ∃ sv, e = .returned (.agg #[.int .u8 (Rd.ex k p).1.op, .int .i64 (Rd.ex k p).1.n, sv]) ∧ ArgsP w' (fun b => w.heap.size ≤ b ∧ b < w'.heap.size) (Rd.ex k p).1.args sv ∧ PS w' be bs (Rd.ex k p).2 ∧ Fr (FrS be bs) w w'
def TakeC (k : Nat) : Prop := ∀ (be bs bf bn bm bl bt : Nat) (p : Rd) (w : World), p.s.size ≤ 140737488355328 → PS w be bs p → Ct w be bs bf bn bm bl bt →
  Calls Try.prog 50 #[.int .i64 (k : Int), .pointer (some ⟨bf, 0, none⟩), .pointer (some ⟨bl, 0, none⟩), .pointer (some ⟨bn, 0, none⟩), .pointer (some ⟨bm, 0, none⟩), .pointer (some ⟨bt, 0, none⟩)] w (TakePost k be bs p w)

theorem Rd.small_size (p : Rd) : p.small.2.s.size ≤ p.s.size := by
  unfold Rd.small
  split
  · rw [Rd.fail_s]; exact p.num_size
  · exact p.num_size
theorem Rd.many_size (m : Int) (p : Rd) : (p.many m).2.s.size ≤ p.s.size := by
  unfold Rd.many
  split
  · show (p.num.2.fail 3).s.size ≤ _; rw [Rd.fail_s]; exact p.num_size
  · exact p.num_size
theorem Rd.many_le (m : Int) (hm : 0 ≤ m) (p : Rd) : 0 ≤ (p.many m).1 ∧ (p.many m).1 ≤ m := by
  unfold Rd.many
  split
  · exact ⟨Int.le_refl _, hm⟩
  · omega
theorem reps_size {α : Type} (f : Rd → α × Rd) (hf : ∀ q, (f q).2.s.size ≤ q.s.size) : ∀ (m : Nat) (p : Rd), (reps f m p).2.s.size ≤ p.s.size
  | 0, p => Nat.le_refl _
  | m + 1, p => by
    simp only [reps]
    exact Nat.le_trans (reps_size f hf m _) (hf p)
theorem Rd.ex_size : ∀ (k : Nat) (p : Rd), (Rd.ex k p).2.s.size ≤ p.s.size
  | 0, p => by show (p.fail 3).s.size ≤ _; rw [Rd.fail_s]; exact Nat.le_refl _
  | k + 1, p => by
    simp only [Rd.ex]
    refine Nat.le_trans (reps_size _ (Rd.ex_size k) _ _) ?_
    exact Nat.le_trans (Rd.many_size _ _) (Nat.le_trans (Rd.num_size _) (Rd.small_size _))
theorem reps_snoc {α : Type} (f : Rd → α × Rd) : ∀ (j : Nat) (p : Rd), reps f (j + 1) p = ((reps f j p).1 ++ [(f (reps f j p).2).1], (f (reps f j p).2).2)
  | 0, p => rfl
  | j + 1, p => by
    have ih := reps_snoc f j (f p).2
    rw [reps, ih]
    simp only [reps, List.cons_append]
theorem reps_len {α : Type} (f : Rd → α × Rd) : ∀ (j : Nat) (p : Rd), (reps f j p).1.length = j
  | 0, p => rfl
  | j + 1, p => by simp only [reps, List.length_cons]; rw [reps_len f j]

theorem TX.step {w wx wy : World} {be bs bf bn bm bl bt bx : Nat} {q q' : Rd} {o n : Int} {av : Value} (h : TX w wx be bs bf bn bm bl bt bx q o n av) (hf : Fr (FrS be bs) wx wy) (hp : PS wy be bs q') : TX w wy be bs bf bn bm bl bt bx q' o n av :=
  have h1 := h.el
  have h2 := h.sl
  have h3 := h.lt
  ⟨h.fr.trans hf, hp, h.ct.fr hf, h.r.fr hf (by rintro (q | q) <;> omega), h.x.fr hf (by rintro (q | q) <;> omega), h.lt, h.el, h.sl⟩

/-- A row that is grown, element by element. -/
structure ERow (B0 : Nat) (wx : World) (l : List Ex) (av : Value) (cs : List Value) (svs : Nat → Value) : Prop where
  own : wx.ownsRow B0 35 3 av l.length cs
  cells : ∀ i (hi : i < l.length), cs[i * 3]? = some (.int .u8 (l[i]'hi).op) ∧ cs[i * 3 + 1]? = some (.int .i64 (l[i]'hi).n) ∧ cs[i * 3 + 2]? = some (svs i)
  sub : ∀ i (hi : i < l.length), ArgsP wx (fun b => B0 ≤ b ∧ b < wx.heap.size ∧ some b ≠ av.ownBlock) (l[i]'hi).args (svs i)
theorem ERow.args {B0 : Nat} {wx : World} {l : List Ex} {av : Value} {cs : List Value} {svs : Nat → Value} (h : ERow B0 wx l av cs svs) : ArgsP wx (fun b => B0 ≤ b ∧ b < wx.heap.size) l av := by
  obtain ⟨⟨h1, h2⟩, hc, hs⟩ := h
  rcases h2 with ⟨rfl, h0⟩ | ⟨g, cap, cur, rfl, hb, hg, hn, hcp, hsz, ht⟩
  · obtain rfl : l = [] := List.length_eq_zero_iff.1 h0
    exact .nil _ _ (Nat.zero_le _)
  · by_cases h0 : l.length = 0
    · obtain rfl : l = [] := List.length_eq_zero_iff.1 h0
      exact .nil _ _ hcp
    · have hlt : g < wx.heap.size := (Array.getElem?_eq_some_iff.1 hg).1
      have cell : ∀ q, q < l.length * 3 → wx.cell? ⟨g, 0 + q, none⟩ = cs[q]? := fun q hq => by
        rw [Nat.zero_add, cell_of_row wx g q cur 35 (0, 0) hg, ← ht, List.getElem?_take, if_pos hq]
        simp
      exact .cons l g 0 cap svs (by omega) ⟨hb, hlt⟩ hn hcp (fun i hi => (cell (i * 3) (by omega)).trans (hc i hi).1) (fun i hi => (cell (i * 3 + 1) (by omega)).trans (hc i hi).2.1)
        (fun i hi => (cell (i * 3 + 2) (by omega)).trans (hc i hi).2.2) (fun i hi => (hs i hi).mono fun b hb => ⟨hb.1, hb.2.1⟩)
theorem ERow.fr {B0 be bs : Nat} {wx wy : World} {l : List Ex} {av : Value} {cs : List Value} {svs : Nat → Value} (h : ERow B0 wx l av cs svs) (hf : Fr (FrS be bs) wx wy) (h1 : be < B0) (h2 : bs < B0) : ERow B0 wy l av cs svs := by
  refine ⟨?_, h.cells, fun i hi => (h.sub i hi).keep (fun b hb => ⟨hb.1, Nat.lt_of_lt_of_le hb.2.1 hf.size, hb.2.2⟩) (fun b hb => hf.block b hb.2.1 (by rintro (q | q) <;> omega))⟩
  obtain ⟨q1, q2⟩ := h.own
  refine ⟨q1, q2.imp id ?_⟩
  rintro ⟨g, cap, cur, hv, hb, hg, r⟩
  exact ⟨g, cap, cur, hv, hb, hf.heap_at hg (by rintro (q | q) <;> omega), r⟩
/-- One more. -/
theorem ERow.snoc {B0 : Nat} {wx w4 w5 : World} {l : List Ex} {av : Value} {cs : List Value} {svs : Nat → Value} {g capg : Nat} {y : Ex} {sv : Value} {o : Obj} (h : ERow B0 w4 l av cs svs) (hx : ∀ q, av.ownBlock = some q → q < wx.heap.size) (hxs : wx.heap.size ≤ w4.heap.size) (hB : B0 ≤ wx.heap.size)
    (hy : ArgsP w4 (fun b => wx.heap.size ≤ b ∧ b < w4.heap.size) y.args sv) (hg : (w4.alloc o).grownBy w5 av.ownBlock) (hat : av.ownBlock = some g ∨ g = (w4.alloc o).heap.size) (hlt : g < w5.heap.size)
    (hown : w5.ownsRow B0 35 3 (.slice (some ⟨g, 0, none⟩) (l.length + 1) capg) (l.length + 1) (cs ++ [.int .u8 y.op, .int .i64 y.n, sv])) :
    ERow B0 w5 (l ++ [y]) (.slice (some ⟨g, 0, none⟩) (l.length + 1) capg) (cs ++ [.int .u8 y.op, .int .i64 y.n, sv]) (fun i => if i = l.length then sv else svs i) := by
  have hl : (l ++ [y]).length = l.length + 1 := by simp
  have hcl : cs.length = l.length * 3 := h.own.1
  have hsz : (w4.alloc o).heap.size = w4.heap.size + 1 := by simp
  have hgs := hg.size
  have keepB : ∀ b, b < w4.heap.size → some b ≠ av.ownBlock → w5.heap[b]? = w4.heap[b]? := fun b hb hn => (hg.block b (by omega) hn).trans (alloc_old w4 o b hb)
  refine ⟨by rw [hl]; exact hown, fun i hi => ?_, fun i hi => ?_⟩
  · by_cases hil : i < l.length
    · obtain ⟨c0, c1, c2⟩ := h.cells i hil
      rw [List.getElem_append_left hil, if_neg (by omega), List.getElem?_append_left (by omega), List.getElem?_append_left (by omega), List.getElem?_append_left (by omega)]
      exact ⟨c0, c1, c2⟩
    · obtain rfl : i = l.length := by omega
      rw [List.getElem_append_right (Nat.le_refl _), if_pos rfl, List.getElem?_append_right (by omega), List.getElem?_append_right (by omega), List.getElem?_append_right (by omega), hcl]
      refine ⟨?_, ?_, ?_⟩
      · simp
      · rw [show l.length * 3 + 1 - l.length * 3 = 1 by omega]; simp
      · rw [show l.length * 3 + 2 - l.length * 3 = 2 by omega]; simp
  · by_cases hil : i < l.length
    · rw [List.getElem_append_left hil, if_neg (by omega)]
      refine (h.sub i hil).keep (fun b hb => ⟨hb.1, by have := hb.2.1; omega, ?_⟩) (fun b hb => keepB b hb.2.1 hb.2.2)
      simp only [Value.ownBlock, ne_eq, Option.some.injEq]
      intro e
      rcases hat with h1 | h1
      · exact hb.2.2 (by rw [h1, e])
      · have := hb.2.1; omega
    · obtain rfl : i = l.length := by omega
      rw [List.getElem_append_right (Nat.le_refl _), if_pos rfl]
      simp only [Nat.sub_self, List.getElem_cons_zero]
      refine hy.keep (fun b hb => ⟨by have := hb.1; omega, by have := hb.2; omega, ?_⟩) (fun b hb => keepB b hb.2 (fun e => by have := hx b e.symm; have := hb.1; omega))
      simp only [Value.ownBlock, ne_eq, Option.some.injEq]
      intro e
      rcases hat with h1 | h1
      · have := hx g h1; have := hb.1; omega
      · have := hb.2; omega


structure CtLt (B be bs bf bn bm bl bt : Nat) : Prop where
  f : bf < B
  n : bn < B
  m : bm < B
  l : bl < B
  t : bt < B
theorem CtLt.of {w : World} {be bs bf bn bm bl bt : Nat} (h : Ct w be bs bf bn bm bl bt) : CtLt w.heap.size be bs bf bn bm bl bt := ⟨h.cl.F.lt, h.cl.N.lt, h.M.lt, h.L.lt, h.T.lt⟩
theorem Blk.same {w w' : World} {b : Nat} {t : TypeId} {cs : Array Value} (h : Blk w b t cs) (hk : w'.heap[b]? = w.heap[b]?) : Blk w' b t cs := hk.trans h
theorem Bx.same {w w' : World} {b : Nat} {v : Value} (h : Bx w b v) (hk : w'.heap[b]? = w.heap[b]?) : Bx w' b v := let ⟨t, h⟩ := h; ⟨t, h.same hk⟩
/-- Over a step that keeps the blocks below B. -/
theorem TX.keepB {w wx wy : World} {be bs bf bn bm bl bt bx B : Nat} {q : Rd} {o n : Int} {av : Value} (h : TX w wx be bs bf bn bm bl bt bx q o n av) (hx : bx < B) (hc : CtLt B be bs bf bn bm bl bt)
    (ho : wy.os = wx.os) (ht : wy.tape = wx.tape) (hu : wy.output = wx.output) (hs : wx.heap.size ≤ wy.heap.size) (hk : ∀ b, b < B → wy.heap[b]? = wx.heap[b]?) : TX w wy be bs bf bn bm bl bt bx q o n av :=
  have h1 := h.el
  have h2 := h.sl
  have h3 := h.lt
  ⟨⟨ho.trans h.fr.os, ht.trans h.fr.tape, hu.trans h.fr.output, Nat.le_trans h.fr.size hs, fun b hb hn => (hk b (by omega)).trans (h.fr.block b hb hn)⟩,
    ⟨h.ps.E.same (hk _ (by omega)), h.ps.S.same (hk _ (by omega))⟩,
    ⟨⟨h.ct.cl.F.same (hk _ hc.f), h.ct.cl.N.same (hk _ hc.n), h.ct.cl.ne, h.ct.cl.f1, h.ct.cl.f2, h.ct.cl.n1, h.ct.cl.n2⟩, h.ct.M.same (hk _ hc.m), h.ct.L.same (hk _ hc.l), h.ct.T.same (hk _ hc.t), h.ct.m1, h.ct.l1, h.ct.t1⟩,
    h.r.same (hk _ (by omega)), h.x.same (hk _ hx), h3, h1, h2⟩
theorem TX.drew {w wx : World} {be bs bf bn bm bl bt bx : Nat} {q : Rd} {o n : Int} {av : Value} (h : TX w wx be bs bf bn bm bl bt bx q o n av) : TX w wx.drew be bs bf bn bm bl bt bx q o n av :=
  ⟨⟨h.fr.os, h.fr.tape, h.fr.output, h.fr.size, h.fr.block⟩, h.ps.drew, h.ct.drew, h.r, h.x, h.lt, h.el, h.sl⟩
theorem TX.setX {w wx : World} {be bs bf bn bm bl bt bx : Nat} {q : Rd} {o n : Int} {av : Value} (h : TX w wx be bs bf bn bm bl bt bx q o n av) (hf : CtFar bx be bs bf bn bm bl bt) (u : Value) :
    TX w (wx.setCell ⟨bx, 2, none⟩ u) be bs bf bn bm bl bt bx q o n u :=
  have h1 := h.el
  have h2 := h.sl
  have h3 := h.lt
  ⟨h.fr.setCell (p := ⟨bx, 2, none⟩) (.inr (Nat.le_of_lt h3)) u, ⟨h.ps.E.other (p := ⟨bx, 2, none⟩) (Nat.ne_of_lt (Nat.lt_trans h1 h3)) u, h.ps.S.other (p := ⟨bx, 2, none⟩) (Nat.ne_of_lt (Nat.lt_trans h2 h3)) u⟩,
    h.ct.far (p := ⟨bx, 2, none⟩) hf u, h.r.other (p := ⟨bx, 2, none⟩) (Nat.ne_of_lt h3) u, h.x.set 2 u, h3, h1, h2⟩
theorem ERow.keepB {B0 : Nat} {wx wy : World} {l : List Ex} {av : Value} {cs : List Value} {svs : Nat → Value} (h : ERow B0 wx l av cs svs) (hs : wx.heap.size ≤ wy.heap.size) (hk : ∀ b, B0 ≤ b → b < wx.heap.size → wy.heap[b]? = wx.heap[b]?) : ERow B0 wy l av cs svs := by
  refine ⟨?_, h.cells, fun i hi => (h.sub i hi).keep (fun b hb => ⟨hb.1, Nat.lt_of_lt_of_le hb.2.1 hs, hb.2.2⟩) (fun b hb => hk b hb.1 hb.2.1)⟩
  obtain ⟨q1, q2⟩ := h.own
  refine ⟨q1, q2.imp id ?_⟩
  rintro ⟨g, cap, cur, hv, hb, hg, r⟩
  exact ⟨g, cap, cur, hv, hb, (hk g hb (Array.getElem?_eq_some_iff.1 hg).1).trans hg, r⟩
theorem ERow.drew {B0 : Nat} {wx : World} {l : List Ex} {av : Value} {cs : List Value} {svs : Nat → Value} (h : ERow B0 wx l av cs svs) : ERow B0 wx.drew l av cs svs := h.keepB (Nat.le_refl _) fun _ _ _ => rfl
theorem ERow.own_ge {B0 : Nat} {wx : World} {l : List Ex} {av : Value} {cs : List Value} {svs : Nat → Value} (h : ERow B0 wx l av cs svs) : ∀ q, av.ownBlock = some q → B0 ≤ q ∧ q < wx.heap.size := by
  intro q hq
  rcases h.own.2 with ⟨rfl, _⟩ | ⟨g, cap, cur, rfl, hb, hg, _⟩
  · cases hq
  · simp only [Value.ownBlock, Option.some.injEq] at hq
    subst hq
    exact ⟨hb, (Array.getElem?_eq_some_iff.1 hg).1⟩
theorem ERow.nil (B0 : Nat) (w : World) (svs : Nat → Value) : ERow B0 w [] (.slice none 0 0) [] svs := ⟨⟨by simp, .inl ⟨rfl, rfl⟩⟩, fun i hi => absurd hi (Nat.not_lt_zero _), fun i hi => absurd hi (Nat.not_lt_zero _)⟩
theorem info_exC : (Try.prog.info? 35).map (fun i => (i.zero, i.size, i.bytes)) = some (some (.agg #[.int .u8 0, .int .i64 0, .slice none 0 0]), 3, 40) := by kernel_rfl

end Go.Proofs.Ytfieoehchghiiaa
