/-
  Roads in a loop, maps of small keys, the walk of law26.RoadPhases.
-/
import Derived.Test.YtpkijdkoiecpiaaGreatDoorZ50
import Derived.Test.YtpkijdkoiecpiaaGreatDoorZ9
import Derived.Deep.DeepAppendWide
namespace Go.Proofs.YtpkijdkoiecpiaaGreatDoor
open Go.RowKit
set_option linter.unusedVariables false
set_option linter.unusedSimpArgs false
structure RM (w : World) (n : Nat) (M : Nat → Prop) (W : World) (R L D : Nat) (r : Rdw) (d : Dk) : Prop where
  hM : ∀ b, M b → w.heap.size ≤ b
  hn : w.heap.size ≤ n
  hN : n ≤ W.heap.size
  below : Below w.heap.size w W
  ex : ∃ P : Nat → Prop, RoAt W M P R L r D d ∧ ∀ b, P b → b < n
namespace RM
variable {w W W' : World} {n : Nat} {M : Nat → Prop} {R L D : Nat} {r : Rdw} {d : Dk}
theorem lt (h : RM w n M W R L D r d) : ∀ b, M b → w.heap.size ≤ b ∧ b < W.heap.size := let ⟨_, h1, _⟩ := h.ex; fun b q => ⟨h.hM b q, h1.lt b q⟩
theorem keep (h : RM w n M W R L D r d) (hb : Below W.heap.size W W') : RM w n M W' R L D r d := let ⟨P, h1, h2⟩ := h.ex; ⟨h.hM, h.hn, Nat.le_trans h.hN hb.size, h.below.trans (hb.mono h.below.size), P, h1.below hb, h2⟩
theorem alloc (h : RM w n M W R L D r d) (o : Obj) : RM w n M (W.alloc o) R L D r d := h.keep ((Below.refl _ _).alloc (Nat.le_refl _) _)
theorem fr {S : Nat → Prop} (h : RM w n M W R L D r d) (hf : Fr S W W') (hS : ∀ b, S b → n ≤ b ∧ ¬ M b) : RM w n M W' R L D r d := by
  obtain ⟨P, h1, h2⟩ := h.ex
  refine ⟨h.hM, h.hn, Nat.le_trans h.hN hf.size, h.below.trans (hf.below h.below.size fun k hk e => by have := (hS k e).1; have := h.hn; omega), P, h1.fr hf (fun b q e => ?_), h2⟩
  rcases q with q | q
  · exact (hS b e).2 q
  · have := h2 b q; have := (hS b e).1; omega
theorem phase_c (h : RM w n M W R L D r d) : Calls Tryz.prog 17 #[px R] W fun e w' => e = .returned (.int .u8 (r.phase : Int)) ∧ W = w' := let ⟨_, h1, _⟩ := h.ex; roPhase_c h1
theorem len_c (h : RM w n M W R L D r d) : Calls Tryz.prog 18 #[px R] W fun e w' => e = .returned (.int .i64 (r.l.length : Int)) ∧ W = w' := let ⟨_, h1, _⟩ := h.ex; roLen_c h1
theorem put_c (h : RM w n M W R L D r d) (x : St) (v : Value) (hv : StIn W (· < w.heap.size) v x) (hok : x.Ok) (hll : d.loose.length ≤ 1000000000) (q : Dk × Rdw × Int) (hq : Rdw.put d r x = q) :
    Calls Tryz.prog 19 #[px R, v] W fun e w' => e = .returned (.int .i64 q.2.2) ∧ Fr M W w' ∧ ∃ N, (∀ b, N b → M b ∨ W.heap.size ≤ b) ∧ RM w n N w' R L D q.2.1 q.1 := by
  obtain ⟨P, h1, h2⟩ := h.ex
  subst hq
  refine (roPut_c W M (fun b => P b ∨ b < w.heap.size) R L r D d (h1.more (fun b k => .inl k) (fun b k => ?_)) x v (hv.keep (fun b k => .inr k) (fun _ _ => rfl)) hok hll).mono ?_
  · rcases k with k | k
    · exact h1.dis b k
    · exact ⟨Nat.lt_of_lt_of_le k h.below.size, fun hm => by have := h.hM b hm; omega⟩
  · rintro e w' ⟨rfl, hf, N, hN, hR⟩
    refine ⟨rfl, hf, N, hN, fun b q => ?_, h.hn, Nat.le_trans h.hN hf.size, h.below.trans (hf.below h.below.size (fun k hk e => by have := h.hM k e; omega)), _, hR, fun b q => ?_⟩
    · rcases hN b q with e | e
      · exact h.hM b e
      · exact Nat.le_trans h.below.size e
    · rcases q with q | q
      · exact h2 b q
      · exact Nat.lt_of_lt_of_le q h.hn
theorem start_idle (h : RM w n M W R L D r d) (hp : r.phase = 0) : Calls Tryz.prog 22 #[px R] W fun e w' => e = .returned (.tuple #[.agg (stC (stOf 0 [] ⟨0, []⟩) (.slice none 0 0)), .bool false]) ∧ Below W.heap.size W w' := let ⟨_, h1, _⟩ := h.ex; roStart_idle h1 hp
end RM
theorem RM.opened {w w1 w2 : World} {M N P : Nat → Prop} {R L D : Nat} {r : Rdw} {d : Dk} (hb : Below w.heap.size w w1) (hM : ∀ b, M b → w.heap.size ≤ b) (hf : Fr M w1 w2) (h : RoAt w2 N P R L r D d) (hN : ∀ b, N b → M b ∨ w1.heap.size ≤ b) : RM w w2.heap.size N w2 R L D r d :=
  ⟨fun b q => by
    rcases hN b q with h | h
    · exact hM b h
    · exact Nat.le_trans hb.size h, Nat.le_trans hb.size hf.size, Nat.le_refl _, hb.trans (hf.below hb.size (fun k hk e => by have := hM k e; omega)), P, h, fun b q => (h.dis b q).1⟩
theorem Rdw.Own.mono {d : Dk} {r : Rdw} {n m : Nat} (h : Rdw.Own d r n) (hm : n ≤ m) : Rdw.Own d r m := ⟨h.kp, h.only, h.left, Nat.le_trans h.len hm⟩
theorem newDk_c (room : Int) (h1 : 1 ≤ room) (h2 : room ≤ 4194304) (W : World) : Calls Tryz.prog 15 #[.int .i64 room] W fun e w' => e = .returned (.tuple #[px W.heap.size, .int .i64 0]) ∧ Below W.heap.size W w' ∧ DkAt w' (· = W.heap.size) W.heap.size (Dk.new room) := by
  refine (New_c room W).mono ?_
  rintro e w' ⟨hb, ⟨_, _, rfl, hd⟩ | ⟨hx, rfl⟩⟩
  · exact ⟨rfl, hb, hd⟩
  · omega
theorem openDk_c (room : Int) (W : World) (D : Nat) (h : DkAt W (· = D) D (Dk.new room)) : Calls Tryz.prog 16 #[px D] W fun e w' => ∃ (R L : Nat) (N P : Nat → Prop), e = .returned (.tuple #[px R, .int .i64 0]) ∧ Fr (· = D) W w' ∧ RoAt w' N P R L road0 D (Dk.new room) ∧ ∀ b, N b → b = D ∨ W.heap.size ≤ b := by
  have := roOpen_c W (· = D) D (Dk.new room) h (by show (0 : Nat) ≤ _; decide)
  rw [Rdw.open_new] at this
  refine this.mono ?_
  rintro e w' (⟨e1, hx, _⟩ | ⟨r, R, L, N, P, hx, rfl, hf, hR, hN, hP⟩)
  · simp at hx
  · simp only [Prod.mk.injEq, Option.some.injEq] at hx
    obtain ⟨rfl, _⟩ := hx
    exact ⟨R, L, N, P, rfl, hf, hR, hN⟩
def opOf (x : St) : RoOp := ⟨0, 0, 0, x⟩
theorem info_op : (Tryz.prog.info? 31).map (fun i => (i.zero, i.size, i.bytes)) = some (some (.agg #[.int .i64 0, .int .i64 0, .int .i64 0, .int .u8 0, .int .i64 0, .int .i64 0, .int .i64 0, .int .i64 0, .slice none 0 0, .int .i64 0, .int .i64 0, .int .i64 0]), 12, 112) := by kernel_rfl
theorem opC_one (x : St) (a : Option Addr) (c : Nat) : ∀ v ∈ (opC (opOf x) (.slice a x.job.nodes.length c)).toList, v.oneCell' = true := by
  intro v hv
  simp only [opC, opOf, List.mem_cons, List.not_mem_nil, or_false] at hv
  rcases hv with rfl | rfl | rfl | rfl | rfl | rfl | rfl | rfl | rfl | rfl | rfl | rfl <;> rfl
def rowO (ps : List (RoOp × Value)) : List Value := ps.flatMap fun p => (opC p.1 p.2).toList
theorem rowO_cons (p : RoOp × Value) (ps : List (RoOp × Value)) : rowO (p :: ps) = (opC p.1 p.2).toList ++ rowO ps := by simp [rowO]
theorem rowO_snoc (ps : List (RoOp × Value)) (p : RoOp × Value) : rowO (ps ++ [p]) = rowO ps ++ (opC p.1 p.2).toList := by simp [rowO]
theorem opC_len (x : RoOp) (v : Value) : (opC x v).toList.length = 12 := rfl
theorem rowO_at : ∀ (ps : List (RoOp × Value)) (k : Nat) (h : k < ps.length) (j : Nat) (hj : j < 12), (rowO ps)[k * 12 + j]? = (opC ps[k].1 ps[k].2)[j]?
  | p :: ps, 0, _, j, hj => by
    rw [rowO_cons, Nat.zero_mul, Nat.zero_add, List.getElem?_append_left (by rw [opC_len]; exact hj), Array.getElem?_toList]; rfl
  | p :: ps, k + 1, h, j, hj => by
    rw [rowO_cons, List.getElem?_append_right (by rw [opC_len]; omega), opC_len, show (k + 1) * 12 + j - 12 = k * 12 + j by omega, rowO_at ps k (by simpa using h) j hj]; rfl
structure OpsR (w : World) (l : List St) (k : Nat) (s : Value) (wr : World) : Prop where
  below : Below w.heap.size w wr
  ex : ∃ ps : List (RoOp × Value), ps.map Prod.fst = (l.take k).map opOf ∧ wr.ownsRow w.heap.size 31 12 s k (rowO ps) ∧ ∀ p ∈ ps, NodesIn wr (· < w.heap.size) p.1.x.job.nodes p.2
theorem OpsR.start (w : World) (l : List St) : OpsR w l 0 (.slice none 0 0) w := ⟨Below.refl _ _, [], rfl, World.ownsRow_nil _ _ _ _, by simp⟩
theorem OpsR.snoc {w wr W2 w3 : World} {l : List St} {k : Nat} {s v' sv : Value} {ps : List (RoOp × Value)} (h : Below w.heap.size w wr) (hk : k < l.length) (hp1 : ps.map Prod.fst = (l.take k).map opOf) (hp2 : wr.ownsRow w.heap.size 31 12 s k (rowO ps)) (hp3 : ∀ p ∈ ps, NodesIn wr (· < w.heap.size) p.1.x.job.nodes p.2)
    (hx : NodesIn wr (· < w.heap.size) l[k].job.nodes sv) (hb : Below wr.heap.size wr W2) (hg : W2.grownBy w3 s.ownBlock) (hown : w3.ownsRow w.heap.size 31 12 v' (k + 1) (rowO ps ++ (opC (opOf l[k]) sv).toList)) : OpsR w l (k + 1) v' w3 := by
  have hs : ∀ q, s.ownBlock = some q → w.heap.size ≤ q := fun q hq => (hp2.lt q hq).1
  have hB : Below w.heap.size w w3 := (h.trans (hb.mono h.size)).grown hg (Nat.le_trans h.size hb.size) hs
  have hk2 : ∀ b, b < w.heap.size → w3.heap[b]? = wr.heap[b]? := fun b q => (hB.block b q).trans (h.block b q).symm
  refine ⟨hB, ps ++ [(opOf l[k], sv)], ?_, by rw [rowO_snoc]; exact hown, fun p hp => ?_⟩
  · rw [List.map_append, hp1, List.take_succ_eq_append_getElem hk, List.map_append]; rfl
  · rcases List.mem_append.1 hp with hp | hp
    · exact (hp3 p hp).keep (fun _ q => q) hk2
    · rw [List.mem_singleton.1 hp]; exact hx.keep (fun _ q => q) hk2
theorem OpsR.rd {w wr : World} {l : List St} {s : Value} (h : OpsR w l l.length s wr) : OpsRd wr (· < wr.heap.size) s (l.map opOf) := by
  obtain ⟨hb, ps, hp1, hp2, hp3⟩ := h
  rw [List.take_of_length_le (Nat.le_refl _)] at hp1
  have hl : ps.length = l.length := by have := congrArg List.length hp1; simpa using this
  rcases hp2.2 with ⟨rfl, h0⟩ | ⟨g, cap, cur, rfl, hb2, hg, hn, hc, hs, ht⟩
  · exact ⟨none, 0, by rw [List.length_map, h0], by rw [List.length_map]; omega, Nat.zero_le _, .inl (by rw [List.length_map]; exact h0)⟩
  · refine ⟨some ⟨g, 0, none⟩, cap, by rw [List.length_map], by rw [List.length_map]; exact hn, hc, .inr ⟨g, 0, rfl, (Array.getElem?_eq_some_iff.1 hg).1, fun k hk => ?_⟩⟩
    rw [List.length_map] at hk
    have hk2 : k < ps.length := by omega
    have hx : (l.map opOf)[k]'(by rw [List.length_map]; exact hk) = ps[k].1 := by
      have : (ps.map Prod.fst)[k]'(by rw [List.length_map]; exact hk2) = (l.map opOf)[k]'(by rw [List.length_map]; exact hk) := by simp only [hp1]
      rw [← this, List.getElem_map]
    rw [hx]
    refine ⟨ps[k].2, (hp3 _ (List.getElem_mem hk2)).mono (fun b q => Nat.lt_of_lt_of_le q hb.size), fun j hj => ?_⟩
    rw [Nat.zero_add, cell_of_row wr g _ cur _ (0, 0) hg, ← rowO_at ps k hk2 j hj, ← ht, List.getElem?_take, if_pos (by omega)]
    simp
open Go.RowKit
set_option linter.unusedVariables false
theorem eq_u8 (d : Nat) (x y : Int) (w : World) : (Op.equalIn (d + 1) 5 (.int .u8 x) (.int .u8 y)).run Tryz.prog w = .ok (x == y) w := by
  unfold Op.equalIn
  go_simp
def Ents8 (es : List MapEntry) (kv : List (Int × Value)) : Prop := es.map (fun e => (e.key, e.val)) = kv.map (fun p => (Value.int .u8 p.1, p.2))
def find8 (r : Int) : List (Int × Value) → Nat → Option (Nat × Value)
  | [], _ => none
  | p :: l, i => if r = p.1 then some (i, p.2) else find8 r l (i + 1)
def Map8 (w : World) (b : Nat) (kv : List (Int × Value)) : Prop := ∃ es clock, w.heap[b]? = some (.map es clock) ∧ Ents8 es.toList kv
namespace Map8
variable {w w' : World} {b : Nat} {kv : List (Int × Value)}
theorem lt (h : Map8 w b kv) : b < w.heap.size := by obtain ⟨es, clock, h, _⟩ := h; exact (Array.getElem?_eq_some_iff.1 h).1
theorem same (h : Map8 w b kv) (hk : w'.heap[b]? = w.heap[b]?) : Map8 w' b kv := by obtain ⟨es, clock, h1, h2⟩ := h; exact ⟨es, clock, hk.trans h1, h2⟩
theorem alloc (h : Map8 w b kv) (o : Obj) : Map8 (w.alloc o) b kv := h.same (alloc_old w o b h.lt)
theorem new (w : World) : Map8 (w.alloc (.map #[] 0)) w.heap.size [] := ⟨#[], 0, heap_alloc_new w _, rfl⟩
end Map8
theorem eq_key8 (x y : Int) (w : World) : (Op.equal 5 (.int .u8 x) (.int .u8 y)).run Tryz.prog w = .ok (x == y) w := by
  unfold Op.equal Op.maxDepth
  exact eq_u8 9999 x y w
theorem findNow8 (r : Int) : ∀ (kv : List (Int × Value)) (es : List MapEntry) (i : Nat), Ents8 es kv → Instr.findNow (.int .u8) (.int .u8 r) es i = some (find8 r kv i)
  | [], [], i, _ => rfl
  | [], _ :: _, i, h => by simp [Ents8] at h
  | _ :: _, [], i, h => by simp [Ents8] at h
  | p :: kv, e :: es, i, h => by
    simp only [Ents8, List.map_cons, List.cons.injEq, Prod.mk.injEq] at h
    obtain ⟨⟨h1, h2⟩, h3⟩ := h
    have ih := findNow8 r kv es (i + 1) h3
    unfold Instr.findNow find8 Instr.sameNow
    rw [h1, h2]
    by_cases hr : r = p.1
    · simp [hr]
    · have e0 : (r == p.1) = false := beq_eq_false_iff_ne.2 hr
      simp [e0, hr, ih]
theorem findKey8 (r : Int) (w : World) (kv : List (Int × Value)) (es : List MapEntry) (h : Ents8 es kv) :
    (Instr.findKey 5 (.int .u8 r) es).run Tryz.prog w = .ok (find8 r kv 0) w := by
  unfold Instr.findKey
  simp [run_underlying Tryz.underlying5, findNow8 r kv es 0 h, Result.andThen]
theorem checkKey8 (e : Bool) (x : Int) (w : World) : (Instr.checkKey e 10000 5 (.int .u8 x)).run Tryz.prog w = .ok () w := ck_u8 9999 e x w
theorem lookup8 {w : World} {b : Nat} {kv : List (Int × Value)} (h : Map8 w b kv) (r : Int) {i : Nat} {v : Value} (hf : find8 r kv 0 = some (i, v)) :
    (Instr.lookup 41 (.map (some b)) (.int .u8 r) false).run Tryz.prog w = .ok v w := by
  obtain ⟨es, clock, h1, h2⟩ := h
  unfold Instr.lookup
  simp [run_underlying Tryz.underlying41, MapKept.run_getObj_map h1, checkKey8, findKey8 r w kv _ h2, hf, Result.andThen]
theorem insert8 {w : World} {b : Nat} {kv : List (Int × Value)} (h : Map8 w b kv) (r : Int) (x : Value) (hnew : find8 r kv 0 = none) :
    ∃ w', (Instr.mapUpdate 41 (.map (some b)) (.int .u8 r) x).run Tryz.prog w = .ok () w' ∧ Map8 w' b (kv ++ [(r, x)]) ∧ Fr (fun k => k = b) w w' ∧ w'.heap.size = w.heap.size := by
  have hlt := h.lt
  obtain ⟨es, clock, h1, h2⟩ := h
  refine ⟨ChangeMaps.setBlock w b (.map (es.push ⟨.int .u8 r, x, clock⟩) (clock + 1)), ?_, ⟨es.push ⟨.int .u8 r, x, clock⟩, clock + 1, by simp [ChangeMaps.setBlock, hlt], ?_⟩, ⟨rfl, rfl, rfl, by simp [ChangeMaps.setBlock], fun k hk hs => ?_⟩, by simp [ChangeMaps.setBlock]⟩
  · unfold Instr.mapUpdate
    simp [run_underlying Tryz.underlying41, MapKept.run_getObj_map h1, checkKey8, findKey8 r w kv _ h2, hnew, MapKept.run_setObj_map _ h1, Result.andThen, ChangeMaps.setBlock]
  · simp only [Ents8, Array.toList_push, List.map_append, List.map_cons, List.map_nil] at h2 ⊢
    rw [h2]
  · simp [ChangeMaps.setBlock, Ne.symm hs]
theorem wpList_lookup8 (w : World) {ops : Array Oper} {rest : List Oper} {o : Oper} {a : Act} {Q : Exit → Act → World → Prop}
    (hg : o.guard = none) (m x : Operand) (hop : o.op = Op.lookup 41 m x false) (b : Nat) (kv : List (Int × Value)) (hm : a.eval m = .map (some b)) (h : Map8 w b kv) (r : Int) (hx : a.eval x = .int .u8 r) (i : Nat) (v : Value) (hf : find8 r kv 0 = some (i, v))
    (hK : wpList Tryz.prog ops Q rest (a.put o.dst v) w) : wpList Tryz.prog ops Q (o :: rest) a w := by
  refine wpList_plain hg fun K' hK' => ?_
  have hrun := lookup8 h r hf
  unfold Oper.wp
  simp [execOp, hop, hm, hx, hrun, Result.andThen]
  exact hK' _ _ hK
theorem wpList_insert8 (w : World) {ops : Array Oper} {rest : List Oper} {o : Oper} {a : Act} {Q : Exit → Act → World → Prop}
    (hg : o.guard = none) (m x v : Operand) (hop : o.op = Op.insert 41 m x v) (b : Nat) (kv : List (Int × Value)) (hm : a.eval m = .map (some b)) (h : Map8 w b kv) (r : Int) (hx : a.eval x = .int .u8 r)
    (y : Value) (hv : a.eval v = y) (hnew : find8 r kv 0 = none)
    (hK : ∀ w', Map8 w' b (kv ++ [(r, y)]) → Fr (fun k => k = b) w w' → w'.heap.size = w.heap.size → wpList Tryz.prog ops Q rest (a.put o.dst undef) w') : wpList Tryz.prog ops Q (o :: rest) a w := by
  refine wpList_plain hg fun K' hK' => ?_
  obtain ⟨w', hrun, r1, r2, r3⟩ := insert8 h r y hnew
  unfold Oper.wp
  simp [execOp, hop, hm, hx, hv, hrun, Result.andThen]
  exact hK' _ _ (hK w' r1 r2 r3)
theorem wpList_makeMap8 (w : World) {ops : Array Oper} {rest : List Oper} {o : Oper} {a : Act} {Q : Exit → Act → World → Prop}
    (hg : o.guard = none) (hop : o.op = Op.makeMap 41 none)
    (hK : Map8 (w.alloc (.map #[] 0)) w.heap.size [] → wpList Tryz.prog ops Q rest (a.put o.dst (.map (some w.heap.size))) (w.alloc (.map #[] 0))) : wpList Tryz.prog ops Q (o :: rest) a w := by
  refine wpList_plain hg fun K' hK' => ?_
  unfold Oper.wp
  simp [execOp, hop, Instr.makeMap, Result.andThen]
  rw [Oper.upon_value]
  exact hK' _ _ (hK (Map8.new w))
open Go.RowKit
set_option linter.unusedVariables false
set_option linter.unusedSimpArgs false
def u8s (b n : Nat) : Value := .slice (some ⟨b, 0, none⟩) n n
structure MayAt (w : World) (B : Nat) : Prop where
  map : Map8 w B [(0, u8s (B + 1) 2), (1, u8s (B + 2) 2), (2, u8s (B + 3) 2), (3, u8s (B + 4) 1)]
  r0 : Blk w (B + 1) 5 #[.int .u8 1, .int .u8 6]
  r1 : Blk w (B + 2) 5 #[.int .u8 2, .int .u8 3]
  r2 : Blk w (B + 3) 5 #[.int .u8 4, .int .u8 5]
  r3 : Blk w (B + 4) 5 #[.int .u8 5]
theorem MayAt.keep {w w' : World} {B : Nat} (h : MayAt w B) (hk : ∀ b, B ≤ b → b ≤ B + 4 → w'.heap[b]? = w.heap[b]?) : MayAt w' B :=
  ⟨h.map.same (hk _ (by omega) (by omega)), (hk _ (by omega) (by omega)).trans h.r0, (hk _ (by omega) (by omega)).trans h.r1, (hk _ (by omega) (by omega)).trans h.r2, (hk _ (by omega) (by omega)).trans h.r3⟩
theorem MayAt.lt {w : World} {B : Nat} (h : MayAt w B) : B + 4 < w.heap.size := h.r3.lt
theorem MayAt.below {w w' : World} {B : Nat} (h : MayAt w B) (hb : Below w.heap.size w w') : MayAt w' B := h.keep fun b _ h2 => hb.block b (by have := h.lt; omega)
def mayV (n p : Nat) : Value := if p = 0 then u8s (n + 1) 2 else if p = 1 then u8s (n + 2) 2 else if p = 2 then u8s (n + 3) 2 else u8s (n + 4) 1
theorem p4_cases {p : Nat} (h : p < 4) : p = 0 ∨ p = 1 ∨ p = 2 ∨ p = 3 := by omega
theorem find_may (n p : Nat) (h : p < 4) : ∃ i, find8 (p : Int) [(0, u8s (n + 1) 2), (1, u8s (n + 2) 2), (2, u8s (n + 3) 2), (3, u8s (n + 4) 1)] 0 = some (i, mayV n p) := by
  rcases p4_cases h with rfl | rfl | rfl | rfl
  · exact ⟨0, rfl⟩
  · exact ⟨1, rfl⟩
  · exact ⟨2, rfl⟩
  · exact ⟨3, rfl⟩
theorem MayAt.look {w : World} {n : Nat} (h : MayAt w n) (p : Nat) (hp : p < 4) : (Instr.lookup 41 (.map (some n)) (.int .u8 (p : Int)) false).run Tryz.prog w = .ok (mayV n p) w := by
  obtain ⟨i, hi⟩ := find_may n p hp
  exact lookup8 h.map (p : Int) hi
theorem MayAt.contains {w : World} {n : Nat} (h : MayAt w n) (p k : Nat) (hp : p < 4) (hk : k < 256) : Calls Tryz.prog 21 #[mayV n p, .int .u8 (k : Int)] w fun e w' => e = .returned (.bool (nextP p k).2) ∧ w = w' := by
  have hl := h.lt
  have h0 := ints_lit (B := w.heap.size) [1, 6] 2 h.r0 rfl (by omega) (by decide)
  have h1 := ints_lit (B := w.heap.size) [2, 3] 2 h.r1 rfl (by omega) (by decide)
  have h2 := ints_lit (B := w.heap.size) [4, 5] 2 h.r2 rfl (by omega) (by decide)
  have h3 := ints_lit (B := w.heap.size) [5] 1 h.r3 rfl (by omega) (by decide)
  rw [← next_any p k (by omega)]
  rcases p4_cases hp with rfl | rfl | rfl | rfl
  · exact ContainsU8_c [1, 6] 2 _ (k : Int) _ w h0 rfl
  · exact ContainsU8_c [2, 3] 2 _ (k : Int) _ w h1 rfl
  · exact ContainsU8_c [4, 5] 2 _ (k : Int) _ w h2 rfl
  · exact ContainsU8_c [5] 1 _ (k : Int) _ w h3 rfl
structure PhR (w : World) (n R L D k : Nat) (M : Nat → Prop) (r : Rdw) (d : Dk) (wr : World) : Prop where
  rm : RM w n M wr R L D r d
  own : Rdw.Own d r k
  room : d.room = 4194304
  may : MayAt wr n
  off : ∀ b, n ≤ b → b ≤ n + 4 → ¬ M b
theorem PhR.below {w W W' : World} {n R L D k : Nat} {M : Nat → Prop} {r : Rdw} {d : Dk} (h : PhR w n R L D k M r d W) (hb : Below W.heap.size W W') : PhR w n R L D k M r d W' := ⟨h.rm.keep hb, h.own, h.room, h.may.below hb, h.off⟩
theorem PhR.put {w W W' : World} {n R L D k k2 : Nat} {M N : Nat → Prop} {r r2 : Rdw} {d d2 : Dk} (h : PhR w n R L D k M r d W) (hf : Fr M W W') (hN : ∀ b, N b → M b ∨ W.heap.size ≤ b) (hr : RM w n N W' R L D r2 d2) (ho : Rdw.Own d2 r2 k2) (hroom : d2.room = 4194304) : PhR w n R L D k2 N r2 d2 W' :=
  ⟨hr, ho, hroom, h.may.keep fun b h1 h2 => hf.block b (by have := h.may.lt; omega) (h.off b h1 h2), fun b h1 h2 hm => by
    rcases hN b hm with e | e
    · exact h.off b h1 h2 e
    · have := h.may.lt; omega⟩
set_option maxRecDepth 100000 in
set_option maxHeartbeats 4000000 in
theorem roPhases_w (w : World) (l : List St) (v : Value) (g : StsRd w (· < w.heap.size) v l) (kk : ∀ x ∈ l, x.Ok) (hbl : l.length * 88 ≤ 140737488355328) (hE : Env w) : Calls Tryz.prog 3 #[v] w fun e w' => e = .returned (.bool true) ∧ Below w.heap.size w w' := by
  obtain ⟨a, cap, rfl, hcap, hmx⟩ := g.slice
  obtain ⟨N, hn⟩ : ∃ N, l.length = N := ⟨_, rfl⟩
  rw [hn] at hcap ⊢
  rw [hn] at hbl
  have HNL : Hid (N ≤ 1599289640401) := by show _ ≤ _; omega
  have HN := Lib.hid hn
  have HG := Lib.hid g
  have HKK := Lib.hid kk
  have HWK : Hid (∀ W, Below w.heap.size w W → Calls Tryz.prog 14 #[] W fun e w' => e = .returned (.bool true) ∧ Below W.heap.size W w') := fun W hb => roWorks_c W (hE.keep hb)
  have HNW : Hid (∀ W, Calls Tryz.prog 15 #[.int .i64 4194304] W fun e w' => e = .returned (.tuple #[px W.heap.size, .int .i64 0]) ∧ Below W.heap.size W w' ∧ DkAt w' (· = W.heap.size) W.heap.size (Dk.new 4194304)) := fun W => newDk_c 4194304 (by decide) (by decide) W
  have HOP := Lib.hid (fun W D h => openDk_c 4194304 W D h)
  have hlN : (N : Int) ≤ 9223372036854775807 := by have := HNL.out; omega
  unfold px at HNW HOP
  clear hcap hmx hn g kk hE
  go_enter Tryz.func3, Tryz.ntmps3
  go_wp2_with fail
  go_loopw [3, 18] (fun s q wr => ∃ k : Nat, q = .int .i64 (k : Int) ∧ k ≤ N ∧ OpsR w l k s wr) (fun _ q _ => N - (intOf q).toNat)
  case atStart => exact ⟨0, rfl, Nat.zero_le _, OpsR.start w l⟩
  case round =>
    obtain ⟨k, rfl, hk, hO⟩ := hrel
    by_cases hlt : k < N
    · have hkl : k < l.length := by have := HN.out; omega
      obtain ⟨b, off, cp, sv, e1, hb, hnd, hc⟩ := (HG.out.keep (Q := (· < w.heap.size)) (fun _ k => k) (fun b hb => hO.below.block b hb)).at_ k hkl
      rw [HN.out] at e1
      simp only [Value.slice.injEq, true_and] at e1
      obtain ⟨rfl, rfl⟩ := e1
      obtain ⟨sa, sc, rfl, _, _⟩ := hnd.slice
      obtain ⟨ps, hp1, hp2, hp3⟩ := hO.ex
      have hsn := fun (W2 w3 : World) (v' : Value) => OpsR.snoc (W2 := W2) (w3 := w3) (v' := v') hO.below hkl hp1 hp2 hp3 hnd
      have hbw := hO.below.size
      generalize l[k]'hkl = x at *
      unfold stC at hc
      have c0 := hc 0 (by omega)
      have c1 := hc 1 (by omega)
      have c2 := hc 2 (by omega)
      have c3 := hc 3 (by omega)
      have c4 := hc 4 (by omega)
      have c5 := hc 5 (by omega)
      have c6 := hc 6 (by omega)
      have c7 := hc 7 (by omega)
      have c8 := hc 8 (by omega)
      rw [Nat.add_zero] at c0
      have hkI : (k : Int) < (N : Int) := by omega
      have hbx := Blk.new wr #[.int .u8 (x.kind : Int), .int .i64 x.n, .int .i64 x.cut, .int .i64 x.too, .int .i64 x.job.par, .slice sa x.job.nodes.length sc, .int .i64 x.part, .int .i64 x.at_, .int .i64 x.why] 29
      have hB2 := (Below.refl wr.heap.size wr).alloc (Nat.le_refl _) (.cells #[.int .u8 (x.kind : Int), .int .i64 x.n, .int .i64 x.cut, .int .i64 x.too, .int .i64 x.job.par, .slice sa x.job.nodes.length sc, .int .i64 x.part, .int .i64 x.at_, .int .i64 x.why] 29)
      have hA2 := hp2.alloc (.cells #[.int .u8 (x.kind : Int), .int .i64 x.n, .int .i64 x.cut, .int .i64 x.too, .int .i64 x.job.par, .slice sa x.job.nodes.length sc, .int .i64 x.part, .int .i64 x.at_, .int .i64 x.why] 29)
      have HSN := Lib.hid hsn
      rename_i hy1 hy2
      clear hy1 hy2 hc hnd hp1 hp3 hsn hO hb hp2
      go_upto_region 5 with fail
      generalize World.alloc wr _ = W2 at *
      have x0 := hbx.cell 0
      have x1 := hbx.cell 1
      have x2 := hbx.cell 2
      have x3 := hbx.cell 3
      have x4 := hbx.cell 4
      have x5 := hbx.cell 5
      have x6 := hbx.cell 6
      have x7 := hbx.cell 7
      have x8 := hbx.cell 8
      obtain ⟨i0, hi, hz0, hz1, hzb⟩ := info_parts info_op
      have HA2 := Lib.hid hA2
      have HB2 := Lib.hid hB2
      have hNL := HNL.out
      have hW2 : w.heap.size ≤ W2.heap.size := Nat.le_trans hbw HB2.out.size
      clear c0 c1 c2 c3 c4 c5 c6 c7 c8 hA2 hB2 hbx
      go_wp2_with (at_builtin; refine wpList_append_own_wide _ rfl _ _ 23 rfl w.heap.size 31 i0 (.agg #[.int .i64 0, .int .i64 0, .int .i64 0, .int .u8 0, .int .i64 0, .int .i64 0, .int .i64 0, .int .i64 0, .slice none 0 0, .int .i64 0, .int .i64 0, .int .i64 0]) 12 112 Tryz.underlying23 hi hz0 hz1 hzb rfl (by decide) u3 k (rowO ps) rfl (HA2.out.alloc _) ⟨W2.heap.size, 0, none⟩ 1 1 [.int .i64 0, .int .i64 0, .int .i64 0, .int .u8 (x.kind : Int), .int .i64 x.n, .int .i64 x.cut, .int .i64 x.too, .int .i64 x.job.par, .slice sa x.job.nodes.length sc, .int .i64 x.part, .int .i64 x.at_, .int .i64 x.why] rfl rfl (World.news_of_block (heap_alloc_new W2 _)) (opC_one x sa sc) (by unfold maxLen; omega) (by omega) (by simp; omega) ?_; intro v' w3 hown3 hgrow3 _)
      go_roundw
      case rel => exact ⟨k + 1, by go_num, by omega, HSN.out _ w3 v' (HB2.out.alloc HB2.out.size _) hgrow3 hown3⟩
      case measure => simp [intOf]; omega
    · have hkN : N = k := by omega
      subst hkN
      have hOR := hO
      rw [← HN.out] at hO
      have hrd := hO.rd
      have HH := Lib.hid (opHeavy_c (l.map opOf) _ wr _ hrd (fun _ h => h))
      have HOB := Lib.hid hO.below
      clear hrd hO hOR hk hlt
      cases hh : heavyOps (l.map opOf)
      · rw [hh] at HH
        have HHF := Lib.hid hh
        clear hh
        go_upto_region 13 with (first
          | (go_at_call 13; refine HH.out.mono ?_; rintro e w3 ⟨rfl, hb3⟩; have hB3 := HOB.out.trans (hb3.mono HOB.out.size))
          | (go_at_call 15; refine (HNW.out _).mono ?_; rintro e w4 ⟨rfl, hb4, hd4⟩; have hB4 := hB3.trans (hb4.mono hB3.size))
          | (go_at_call 16; refine (HOP.out _ _ hd4).mono ?_; rintro e w5 ⟨R, L, M, P, rfl, hf5, hR5, hM5⟩; have HRM := Lib.hid (RM.opened hB4 (M := (· = w3.heap.size)) (fun b q => by rw [q]; exact hB3.size) hf5 hR5 hM5); clear hR5 hf5)
          | fail)
        have hN100 : N ≤ 100 := by
          have h1 := HHF.out
          unfold heavyOps at h1
          simp only [Bool.or_eq_false_iff, decide_eq_false_iff_not, List.length_map] at h1
          have h2 := HN.out
          omega
        have H100 := Lib.hid hN100
        clear hM5 hd4 hb4 hb3 hB3 hB4 HH hbl HOB HNW HOP hN100
        generalize w3.heap.size = D at *
        obtain ⟨n, hz5⟩ : ∃ n, w5.heap.size = n := ⟨_, rfl⟩
        rw [hz5] at HRM
        go_upto_region 15 with (first
          | (refine wpList_makeMap8 _ rfl rfl ?_; intro m0; rw [hz5] at m0)
          | (refine wpList_insert8 _ rfl _ _ _ rfl n [] rfl (m0.alloc _) 0 rfl (u8s (n + 1) 2) rfl rfl ?_; intro w6 m1 g1 z6; have z6 : w6.heap.size = n + 2 := by simpa [hz5] using z6)
          | (refine wpList_insert8 _ rfl _ _ _ rfl n _ rfl (m1.alloc _) 1 rfl (u8s (n + 2) 2) rfl rfl ?_; intro w7 m2 g2 z7; have z7 : w7.heap.size = n + 3 := by simpa [z6] using z7)
          | (refine wpList_insert8 _ rfl _ _ _ rfl n _ rfl (m2.alloc _) 2 rfl (u8s (n + 3) 2) rfl rfl ?_; intro w8 m3 g3 z8; have z8 : w8.heap.size = n + 4 := by simpa [z7] using z8)
          | (refine wpList_insert8 _ rfl _ _ _ rfl n _ rfl (m3.alloc _) 3 rfl (u8s (n + 4) 1) rfl rfl ?_; intro w9 m4 g4 z9; have z9 : w9.heap.size = n + 5 := by simpa [z8] using z9)
          | fail)
        have hgm : ∀ {A B : World}, Fr (fun k => k = n) A B → Fr (fun k => n ≤ k) A B := fun g => g.mono (fun k _ e => by show n ≤ k; omega)
        have hf9 : Fr (fun b => n ≤ b) w5 w9 := (((((((((Fr.refl _ w5).alloc _).alloc _).trans (hgm g1)).alloc _).trans (hgm g2)).alloc _).trans (hgm g3)).alloc _).trans (hgm g4)
        have hma : MayAt w9 n := ⟨m4,
          (((((((Blk.new_at (w5.alloc (.map #[] 0)) _ 5 (k := n + 1) (by simp [hz5])).fr g1 (fun e => by omega)).alloc _).fr g2 (fun e => by omega)).alloc _).fr g3 (fun e => by omega)).alloc _).fr g4 (fun e => by omega),
          (((((Blk.new_at w6 _ 5 (k := n + 2) z6.symm).fr g2 (fun e => by omega)).alloc _).fr g3 (fun e => by omega)).alloc _).fr g4 (fun e => by omega),
          (((Blk.new_at w7 _ 5 (k := n + 3) z7.symm).fr g3 (fun e => by omega)).alloc _).fr g4 (fun e => by omega),
          (Blk.new_at w8 _ 5 (k := n + 4) z8.symm).fr g4 (fun e => by omega)⟩
        have hMn : ∀ b, n ≤ b → ¬ M b := fun b hb hm => by have := (HRM.out.lt b hm).2; omega
        have hPS : PhR w n R L D 0 M road0 (Dk.new 4194304) w9 := ⟨HRM.out.fr hf9 (fun b hb => ⟨hb, hMn b hb⟩), Rdw.Own.new 4194304 (by decide) (by decide), rfl, hma, fun b h1 _ => hMn b h1⟩
        have HPS := Lib.hid hPS
        clear hPS hma hMn hf9 hgm m0 m1 m2 m3 m4 g1 g2 g3 g4 z6 z7 z8 z9 HRM hz5
        go_loopw [50] (fun q wr => ∃ (k : Nat) (M : Nat → Prop) (r : Rdw) (d : Dk), q = .int .i64 (k : Int) ∧ k ≤ N ∧ PhR w n R L D k M r d wr) (fun q _ => N - (intOf q).toNat)
        case atStart => exact ⟨0, _, _, _, rfl, Nat.zero_le _, HPS.out⟩
        case round =>
          obtain ⟨k, M1, r, d, rfl, hk, hS⟩ := hrel
          have HS := Lib.hid hS
          by_cases hlt : k < N
          · have hkl : k < l.length := by have := HN.out; omega
            obtain ⟨b, off, cp, sv, e1, hb, hnd, hc⟩ := (HG.out.keep (Q := (· < w.heap.size)) (fun _ k => k) (fun b hb => hS.rm.below.block b hb)).at_ k hkl
            rw [HN.out] at e1
            simp only [Value.slice.injEq, true_and] at e1
            obtain ⟨rfl, rfl⟩ := e1
            obtain ⟨sa, sc, rfl, _, _⟩ := hnd.slice
            have hxok := HKK.out _ (List.getElem_mem hkl)
            generalize l[k]'hkl = x at *
            unfold stC at hc
            have c0 := hc 0 (by omega)
            have c1 := hc 1 (by omega)
            have c2 := hc 2 (by omega)
            have c3 := hc 3 (by omega)
            have c4 := hc 4 (by omega)
            have c5 := hc 5 (by omega)
            have c6 := hc 6 (by omega)
            have c7 := hc 7 (by omega)
            have c8 := hc 8 (by omega)
            rw [Nat.add_zero] at c0
            have hkI : (k : Int) < (N : Int) := by omega
            have hbx := Blk.new wr #[.int .u8 (x.kind : Int), .int .i64 x.n, .int .i64 x.cut, .int .i64 x.too, .int .i64 x.job.par, .slice sa x.job.nodes.length sc, .int .i64 x.part, .int .i64 x.at_, .int .i64 x.why] 29
            have hB2 := (Below.refl wr.heap.size wr).alloc (Nat.le_refl _) (.cells #[.int .u8 (x.kind : Int), .int .i64 x.n, .int .i64 x.cut, .int .i64 x.too, .int .i64 x.job.par, .slice sa x.job.nodes.length sc, .int .i64 x.part, .int .i64 x.at_, .int .i64 x.why] 29)
            have hS2 := hS.below hB2
            have hXI := hnd.keep (w' := wr.alloc (.cells #[.int .u8 (x.kind : Int), .int .i64 x.n, .int .i64 x.cut, .int .i64 x.too, .int .i64 x.job.par, .slice sa x.job.nodes.length sc, .int .i64 x.part, .int .i64 x.at_, .int .i64 x.why] 29)) (Q := (· < w.heap.size)) (fun _ k => k) (fun b q => alloc_old wr _ b (Nat.lt_of_lt_of_le q hS.rm.below.size))
            have HPU := Lib.hid (hS2.rm.put_c x (.agg (stC x (.slice sa x.job.nodes.length sc))) ⟨_, rfl, hXI⟩ hxok (by rw [hS.own.kp.loose]; exact Nat.zero_le _) _ rfl)
            have hOP := hS.own.put hS.room (by have := H100.out; omega) x hxok
            have HPH := Lib.hid hS2.rm.phase_c
            have HLN := Lib.hid hS2.rm.len_c
            have HMY : Hid (∀ W, Below w.heap.size w W → Calls Tryz.prog 20 #[.agg (stC x (.slice sa x.job.nodes.length sc))] W fun e w' => e = .returned (.bool x.mayB) ∧ Below W.heap.size W w') := fun W hb => roMay_c x hxok _ W (· < w.heap.size) ⟨_, rfl, hXI.keep (fun _ k => k) (fun b q => by rw [hb.block b q, hS2.rm.below.block b q])⟩ (fun b q => Nat.lt_of_lt_of_le q hb.size)
            have HS2 := Lib.hid hS2
            have HXB := Lib.hid hbx
            have HBM : Hid (¬ M1 wr.heap.size) := fun hm => by have := (hS.rm.lt _ hm).2; omega
            have hp4 : r.phase < 4 := by obtain ⟨P, h, _⟩ := hS.rm.ex; exact h.phase
            unfold px stC at HPU
            unfold px at HPH HLN
            unfold stC at HMY
            rename_i hy1 hy2
            clear hy1 hy2 hc hnd hS hS2 hb hXI
            go_upto_region 17 with fail
            generalize hBX : wr.heap.size = BX at *
            generalize World.alloc wr _ = W2 at *
            have x0 := hbx.cell 0
            have x1 := hbx.cell 1
            have x2 := hbx.cell 2
            have x3 := hbx.cell 3
            have x4 := hbx.cell 4
            have x5 := hbx.cell 5
            have x6 := hbx.cell 6
            have x7 := hbx.cell 7
            have x8 := hbx.cell 8
            clear c0 c1 c2 c3 c4 c5 c6 c7 c8 hbx
            generalize hq : Rdw.put d r x = q at *
            obtain ⟨d2, r2, qe⟩ := q
            dsimp only at hOP HPU
            have HNX := Lib.hid (fun (W : World) (h : MayAt W n) => h.contains r.phase x.kind hp4 hxok.kind)
            have HLK := Lib.hid (fun (W : World) (h : MayAt W n) => h.look r.phase hp4)
            have HMN := Lib.hid HS2.out.rm.below
            have hcs : (qe = 0 ∧ x.mayB = true ∧ (nextP r.phase x.kind).2 = true) ∨ (qe ≠ 0 ∧ x.mayB = false) ∨ (qe ≠ 0 ∧ x.mayB = true ∧ (nextP r.phase x.kind).2 = false) := by
              rcases hOP with ⟨h1, _, _, _, _, h2, h3⟩ | ⟨h1, _, _, h2⟩
              · exact .inl ⟨h1, h2, h3⟩
              · cases hm : x.mayB
                · exact .inr (.inl ⟨h1, rfl⟩)
                · rcases h2 with h2 | h2
                  · rw [hm] at h2; exact absurd h2 (by decide)
                  · exact .inr (.inr ⟨h1, rfl, h2⟩)
            have HPO : Hid (∀ (N6 : Nat → Prop) (w6 : World), Fr M1 W2 w6 → (∀ b, N6 b → M1 b ∨ W2.heap.size ≤ b) → RM w n N6 w6 R L D r2 d2 → PhR w n R L D (k + 1) N6 r2 d2 w6) := by
              intro N6 w6 h1 h2 h3
              rcases hOP with ⟨_, h4, h5, _⟩ | ⟨_, rfl, rfl, _⟩
              · exact HS2.out.put h1 h2 h3 h4 h5
              · exact HS2.out.put h1 h2 h3 (HS2.out.own.mono (Nat.le_succ _)) HS2.out.room
            have HSAME : Hid (qe ≠ 0 → r2 = r) := fun h => by
              rcases hOP with ⟨h1, _⟩ | ⟨_, _, h2, _⟩
              · exact absurd h1 h
              · exact h2
            have HQ := Lib.hid hq
            clear hOP hq
            rcases hcs with ⟨rfl, hm, hx⟩ | ⟨hqe, hm⟩ | ⟨hqe, hm, hx⟩
            · rw [hm] at HMY
              rw [hx] at HNX
              clear hm hx
              go_wp2_with (first
                | (go_at_call 17; refine HPH.out.mono ?_; rintro e w4 ⟨rfl, rfl⟩)
                | (go_at_call 18; refine HLN.out.mono ?_; rintro e w5 ⟨rfl, rfl⟩)
                | (go_at_call 19; refine HPU.out.mono ?_; rintro e w6 ⟨rfl, hf6, N6, hN6, hR6⟩; have hP6 := HPO.out N6 w6 hf6 hN6 hR6; have hx6 := (hf6.block BX HXB.out.lt HBM.out).trans HXB.out; have y0 := Blk.cell hx6 0; have y1 := Blk.cell hx6 1; have y2 := Blk.cell hx6 2; have y3 := Blk.cell hx6 3; have y4 := Blk.cell hx6 4; have y5 := Blk.cell hx6 5; have y6 := Blk.cell hx6 6; have y7 := Blk.cell hx6 7; have y8 := Blk.cell hx6 8)
                | (go_at_call 20; refine (HMY.out w6 hP6.rm.below).mono ?_; rintro e w7 ⟨rfl, hb7⟩; have hP7 := hP6.below hb7; have hlk := HLK.out w7 hP7.may; have z0 := Blk.cell ((hb7.block BX (Blk.lt hx6)).trans hx6) 0)
                | (go_at_call 21; refine (HNX.out _ hP7.may).mono ?_; rintro e w8 ⟨rfl, rfl⟩)
                | fail)
              go_roundw
              case rel => exact ⟨k + 1, N6, r2, d2, by go_num, by omega, hP7⟩
              case measure => simp [intOf]; omega
            · rw [hm] at HMY
              have hqb : (qe != 0) = true := by rw [bne_iff_ne]; exact hqe
              have hqc : (qe == 0) = false := by rw [beq_eq_false_iff_ne]; exact hqe
              have hrr := HSAME.out hqe
              subst hrr
              clear hm hqe HQ HSAME
              go_wp2_with (first
                | (go_at_call 19; refine HPU.out.mono ?_; rintro e w6 ⟨rfl, hf6, N6, hN6, hR6⟩; have hP6 := HPO.out N6 w6 hf6 hN6 hR6; have hx6 := (hf6.block BX HXB.out.lt HBM.out).trans HXB.out; have y0 := Blk.cell hx6 0; have y1 := Blk.cell hx6 1; have y2 := Blk.cell hx6 2; have y3 := Blk.cell hx6 3; have y4 := Blk.cell hx6 4; have y5 := Blk.cell hx6 5; have y6 := Blk.cell hx6 6; have y7 := Blk.cell hx6 7; have y8 := Blk.cell hx6 8)
                | (go_at_call 20; refine (HMY.out w6 hP6.rm.below).mono ?_; rintro e w7 ⟨rfl, hb7⟩; have hP7 := hP6.below hb7; have HP2 := Lib.hid hP7.rm.phase_c; have HL2 := Lib.hid hP7.rm.len_c; unfold px at HP2 HL2; have hlk := HLK.out w7 hP7.may; have z0 := Blk.cell ((hb7.block BX (Blk.lt hx6)).trans hx6) 0)
                | (go_at_call 21; refine (HNX.out _ hP7.may).mono ?_; rintro e w8 ⟨rfl, rfl⟩)
                | (go_at_call 17; refine HP2.out.mono ?_; rintro e w9 ⟨rfl, rfl⟩)
                | (go_at_call 18; refine HL2.out.mono ?_; rintro e w10 ⟨rfl, rfl⟩)
                | (go_at_call 17; refine HPH.out.mono ?_; rintro e w4 ⟨rfl, rfl⟩)
                | (go_at_call 18; refine HLN.out.mono ?_; rintro e w5 ⟨rfl, rfl⟩)
                | fail)
              go_roundw
              case rel => exact ⟨k + 1, N6, _, d2, by go_num, by omega, hP7⟩
              case measure => simp [intOf]; omega
            · rw [hm] at HMY
              rw [hx] at HNX
              have hqb : (qe != 0) = true := by rw [bne_iff_ne]; exact hqe
              have hqc : (qe == 0) = false := by rw [beq_eq_false_iff_ne]; exact hqe
              have hrr := HSAME.out hqe
              subst hrr
              clear hm hx hqe HQ HSAME
              go_wp2_with (first
                | (go_at_call 19; refine HPU.out.mono ?_; rintro e w6 ⟨rfl, hf6, N6, hN6, hR6⟩; have hP6 := HPO.out N6 w6 hf6 hN6 hR6; have hx6 := (hf6.block BX HXB.out.lt HBM.out).trans HXB.out; have y0 := Blk.cell hx6 0; have y1 := Blk.cell hx6 1; have y2 := Blk.cell hx6 2; have y3 := Blk.cell hx6 3; have y4 := Blk.cell hx6 4; have y5 := Blk.cell hx6 5; have y6 := Blk.cell hx6 6; have y7 := Blk.cell hx6 7; have y8 := Blk.cell hx6 8)
                | (go_at_call 20; refine (HMY.out w6 hP6.rm.below).mono ?_; rintro e w7 ⟨rfl, hb7⟩; have hP7 := hP6.below hb7; have HP2 := Lib.hid hP7.rm.phase_c; have HL2 := Lib.hid hP7.rm.len_c; unfold px at HP2 HL2; have hlk := HLK.out w7 hP7.may; have z0 := Blk.cell ((hb7.block BX (Blk.lt hx6)).trans hx6) 0)
                | (go_at_call 21; refine (HNX.out _ hP7.may).mono ?_; rintro e w8 ⟨rfl, rfl⟩)
                | (go_at_call 17; refine HP2.out.mono ?_; rintro e w9 ⟨rfl, rfl⟩)
                | (go_at_call 18; refine HL2.out.mono ?_; rintro e w10 ⟨rfl, rfl⟩)
                | (go_at_call 17; refine HPH.out.mono ?_; rintro e w4 ⟨rfl, rfl⟩)
                | (go_at_call 18; refine HLN.out.mono ?_; rintro e w5 ⟨rfl, rfl⟩)
                | fail)
              go_roundw
              case rel => exact ⟨k + 1, N6, _, d2, by go_num, by omega, hP7⟩
              case measure => simp [intOf]; omega
          · go_wp2_with (first | (go_at_call 14; refine (HWK.out wr hS.rm.below).mono ?_; rintro e w6 ⟨rfl, hb6⟩) | fail)
            go_ret
            exact ⟨rfl, hS.rm.below.trans (hb6.mono hS.rm.below.size)⟩
      · rw [hh] at HH
        go_wp2_with (first
          | (go_at_call 13; refine HH.out.mono ?_; rintro e w3 ⟨rfl, hb3⟩)
          | (go_at_call 14; refine (HWK.out w3 (HOB.out.trans (hb3.mono HOB.out.size))).mono ?_; rintro e w4 ⟨rfl, hb4⟩)
          | fail)
        go_ret
        exact ⟨rfl, (HOB.out.trans (hb3.mono HOB.out.size)).trans (hb4.mono (HOB.out.trans (hb3.mono HOB.out.size)).size)⟩
end Go.Proofs.YtpkijdkoiecpiaaGreatDoor
