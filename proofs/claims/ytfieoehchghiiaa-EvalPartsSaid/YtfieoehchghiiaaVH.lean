/-
  Plain laws for EvalParts.
-/
import Derived.Test.YtfieoehchghiiaaVE
import Derived.Test.YtfieoehchghiiaaA1
namespace Go.Proofs.Ytfieoehchghiiaa
open Go.RowKit
set_option linter.unusedVariables false

theorem mayB_up : ∀ (k : Nat) (x : Ex), mayB k x = true → mayB (k + 1) x = true
  | 0, x, h => by simp [mayB] at h
  | k + 1, x, h => by
    rw [mayB] at h ⊢
    simp only [Bool.and_eq_true, List.all_eq_true] at h ⊢
    exact ⟨h.1, fun a ha => mayB_up k a (h.2 a ha)⟩

/-- What is told for a part: the number, or the truth, that it comes to. -/
def byE (ty n : Int) (b : Bool) : Ex := if ty = 2 then .mk 14 0 [.mk 1 0 [], .mk 1 (if b then 0 else 1) []] else .mk 1 n []
theorem byE_ok (ty n : Int) (b : Bool) (h1 : -9223372036854775808 ≤ n) (h2 : n ≤ 9223372036854775807) : (byE ty n b).ok := by
  unfold byE
  split
  · cases b <;> simp [Ex.ok, Exs.ok]
  · simp only [Ex.ok, Exs.ok, and_true]; omega
theorem byE_may (ty n : Int) (b : Bool) (h : ty = 1 ∨ ty = 2) (hn : 0 ≤ n) : mayB 15 (byE ty n b) = true ∧ (byE ty n b).ty = ty := by
  rcases h with rfl | rfl
  · refine ⟨?_, by unfold byE; rw [if_neg (by decide)]; rfl⟩
    unfold byE
    rw [if_neg (by decide)]
    simp only [mayB, Ex.args, List.all_nil, Bool.and_true]
    unfold shapeB
    simp only [Ex.op, Ex.n, Ex.args, List.length_nil]
    rw [decide_eq_true_eq]
    exact ⟨by decide, hn, .inr True.intro⟩
  · unfold byE
    rw [if_pos rfl]
    cases b
    · exact ⟨by decide +kernel, by decide +kernel⟩
    · exact ⟨by decide +kernel, by decide +kernel⟩
theorem byE_ev (a : Ex) (env : Env) (h : (a.ev env).ty = a.ty) (h12 : a.ty = 1 ∨ a.ty = 2) : (byE a.ty (a.ev env).n (a.ev env).b).ev env = a.ev env := by
  rcases h12 with h1 | h1
  · rw [h1] at h ⊢
    unfold byE
    rw [if_neg (by decide)]
    exact (Ev.of_1 h).symm
  · rw [h1] at h ⊢
    unfold byE
    rw [if_pos rfl]
    rw [Ev.of_2 h]
    cases (a.ev env).b <;> rfl

theorem map_set_same {α β : Type} (f : α → β) (l : List α) (i : Nat) (h : i < l.length) (b : α) (hb : f b = f (l[i]'h)) : (l.set i b).map f = l.map f := by
  rw [List.map_set, hb]
  apply List.ext_getElem
  · simp
  · intro j h1 h2
    rw [List.getElem_set]
    split
    · subst_vars; simp
    · rfl
theorem Exs.ok_set : ∀ (l : List Ex) (k : Nat) (z : Ex), Exs.ok l → z.ok → Exs.ok (l.set k z)
  | [], _, _, _, _ => trivial
  | x :: l, 0, z, h, hz => ⟨hz, h.2⟩
  | x :: l, k + 1, z, h, hz => ⟨h.1, Exs.ok_set l k z h.2 hz⟩
theorem ok_set {x : Ex} (h : x.ok) (k : Nat) (z : Ex) (hz : z.ok) : (Ex.mk x.op 0 (x.args.set k z)).ok := by
  have h1 := Ex.ok_op h
  refine ⟨h1.1, h1.2, by omega, by omega, Exs.ok_set _ k z (Ex.ok_args h) hz⟩
theorem evOp_n {op : Int} (h : op ≠ 1) (n m : Int) (env : Env) (l : List Ev) : evOp op n env l = evOp op m env l := by
  unfold evOp
  rw [if_neg h, if_neg h]

theorem doR_len {x : Ex} {env : Env} (h : (x.doR env).e = 0) : x.args.length ≤ 3 := by
  rw [doR_e] at h
  obtain ⟨hm, _⟩ := typ_ok h
  unfold Ex.mayT at hm
  rw [mayB] at hm
  simp only [Bool.and_eq_true] at hm
  have := (of_decide_eq_true hm.1).1
  unfold manyN at this
  repeat' split at this
  all_goals omega
/-- A part for the number that it comes to. -/
theorem parts_law {x : Ex} {env : Env} (hok : x.ok) (h : (x.doR env).e = 0) (i : Nat) (hi : i < x.args.length) :
    ((x.args[i]'hi).doR env).e = 0 ∧ (((x.args[i]'hi).doR env).ty = 1 ∨ ((x.args[i]'hi).doR env).ty = 2) ∧ (((x.args[i]'hi).doR env).ty = 2 → ((x.args[i]'hi).doR env).n = 0) ∧
    (0 ≤ ((x.args[i]'hi).doR env).n → (Ex.mk x.op 0 (x.args.set i (byE ((x.args[i]'hi).doR env).ty ((x.args[i]'hi).doR env).n ((x.args[i]'hi).doR env).b))).doR env = x.doR env) := by
  rw [doR_e] at h
  obtain ⟨hm, _, hty, hj⟩ := typ_ok h
  have hmem : x.args[i]'hi ∈ x.args := List.getElem_mem hi
  have hta := typed_args (typed_of hok hm hty) hty _ hmem
  have hoka := Exs.ok_at x.args (Ex.ok_args hok) i hi
  have hm2 : shapeB x = true ∧ ∀ a ∈ x.args, mayB 15 a = true := by
    unfold Ex.mayT at hm
    rw [mayB] at hm
    simpa only [Bool.and_eq_true, List.all_eq_true] using hm
  have hma : (x.args[i]'hi).mayT = true := mayB_up 15 _ (hm2.2 _ hmem)
  have hopne : x.op ≠ 1 := by
    intro h1
    have h2 := of_decide_eq_true hm2.1
    have h3 := h2.1
    rw [h1] at h3
    have : manyN 1 = 0 := by decide
    omega
  generalize ha : x.args[i]'hi = a at *
  have h12 := ty12 a hta
  have htyp : a.typ true = (a.ty, 0) := by
    unfold Ex.typ
    rw [if_pos hma, if_neg (by simp), if_neg hta]
  have hda : a.doR env = ⟨a.ty, (a.ev env).n, (a.ev env).b, 0⟩ := by
    rw [doR_ok (by rw [htyp]), htyp]
  have hev := ev_ty env 16 a hoka hma hta
  rw [hda]
  refine ⟨rfl, h12, fun h2 => ?_, fun hn => ?_⟩
  · have h2' : a.ty = 2 := h2
    rw [h2'] at hev
    show (a.ev env).n = 0
    rw [Ev.of_2 hev]
    rfl
  · dsimp only at hn ⊢
    have hby := byE_may a.ty (a.ev env).n (a.ev env).b h12 hn
    have hbe := byE_ev a env hev h12
    generalize byE a.ty (a.ev env).n (a.ev env).b = b at *
    have t1 : (x.args.set i b).map Ex.ty = x.args.map Ex.ty := map_set_same _ _ i hi b (by rw [ha]; exact hby.2)
    have t2 : (x.args.set i b).map (Ex.ev env) = x.args.map (Ex.ev env) := map_set_same _ _ i hi b (by rw [ha]; exact hbe)
    have hyt : (Ex.mk x.op 0 (x.args.set i b)).ty = x.ty := by
      rw [Ex.ty_eq, Ex.ty_eq x]
      show (match Exs.tys (x.args.set i b) with | none => 0 | some ts => getRow ⟨x.op, ts.getD 0 0, ts.getD 1 0, ts.getD 2 0⟩ kv8) = _
      rw [Exs.tys_map, Exs.tys_map, t1]
      rfl
    have hye : (Ex.mk x.op 0 (x.args.set i b)).ev env = x.ev env := by
      rw [Ex.ev_eq, Ex.ev_eq env x]
      show evOp x.op 0 env ((x.args.set i b).map (Ex.ev env)) = _
      rw [t2]
      exact evOp_n hopne _ _ _ _
    have hym : (Ex.mk x.op 0 (x.args.set i b)).mayT = true := by
      unfold Ex.mayT
      rw [mayB]
      simp only [Bool.and_eq_true, List.all_eq_true]
      show shapeB (Ex.mk x.op 0 (x.args.set i b)) = true ∧ ∀ c ∈ x.args.set i b, mayB 15 c = true
      refine ⟨?_, fun c hc => ?_⟩
      · have h2 := of_decide_eq_true hm2.1
        unfold shapeB
        rw [decide_eq_true_eq]
        show manyN x.op = ((x.args.set i b).length : Int) ∧ (0 : Int) ≤ 0 ∧ ((0 : Int) = 0 ∨ _)
        rw [List.length_set]
        exact ⟨h2.1, Int.le_refl _, .inl rfl⟩
      · rcases List.mem_or_eq_of_mem_set hc with hc | rfl
        · exact hm2.2 c hc
        · exact hby.1
    have hyp : (Ex.mk x.op 0 (x.args.set i b)).typ true = (x.ty, 0) := by
      unfold Ex.typ
      rw [if_pos hym, if_neg (by simp), hyt, if_neg hty]
    have hxp : x.typ true = (x.ty, 0) := by
      unfold Ex.typ
      rw [if_pos hm, if_neg (by simp), if_neg hty]
    rw [doR_ok (by rw [hyp]), doR_ok (by rw [hxp]), hyp, hxp, hye]

def Ir (n : Int) : Prop := -9223372036854775808 ≤ n ∧ n ≤ 9223372036854775807
def Env.ok (env : Env) : Prop := Ir env.key ∧ Ir env.val ∧ Ir env.acc
theorem ir_wrap (n : Int) : Ir (wrap64 n) := by unfold Ir wrap64; omega
theorem ir_zero : Ir 0 := by unfold Ir; omega
theorem ir_tmod (a b : Int) (h : Ir a) : Ir (a.tmod b) := by
  unfold Ir at h ⊢
  have h1 : (a.tmod b).natAbs = a.natAbs % b.natAbs := Int.natAbs_tmod a b
  have h2 : a.natAbs % b.natAbs ≤ a.natAbs := Nat.mod_le _ _
  rcases Int.le_total 0 a with h0 | h0
  · have h3 := Int.tmod_nonneg b h0
    omega
  · have h3 := Int.tmod_nonneg b (show (0 : Int) ≤ -a by omega)
    rw [Int.neg_tmod] at h3
    omega
theorem evInts_ir (op a b : Int) (h : Ir a) : Ir (evInts op a b).n := by
  unfold evInts
  repeat' split
  all_goals first | exact ir_wrap _ | exact ir_zero | exact ir_tmod a b h
theorem evTwo_ir (op : Int) (a b : Ev) (h : Ir a.n) : Ir (evTwo op a b).n := by
  cases a <;> cases b
  · exact evInts_ir op _ _ h
  · exact ir_zero
  · exact ir_zero
  · exact ir_zero
theorem getD_ir (l : List Ev) (h : ∀ e ∈ l, Ir e.n) (i : Nat) : Ir (l.getD i (.int 0)).n := by
  by_cases hi : i < l.length
  · have : l.getD i (.int 0) = l[i] := by simp [List.getD, hi]
    rw [this]
    exact h _ (List.getElem_mem hi)
  · have : l.getD i (.int 0) = .int 0 := by simp [List.getD, hi]
    rw [this]
    exact ir_zero
theorem evOp_ir (op n : Int) (env : Env) (l : List Ev) (hn : Ir n) (he : env.ok) (h : ∀ e ∈ l, Ir e.n) : Ir (evOp op n env l).n := by
  unfold evOp
  repeat' split
  · exact hn
  · exact he.1
  · exact he.2.1
  · exact he.2.2
  · exact ir_wrap _
  · exact ir_zero
  · exact getD_ir l h 1
  · exact getD_ir l h 2
  · exact evTwo_ir _ _ _ (getD_ir l h 0)
mutual
theorem Ex.ev_ir (env : Env) (he : env.ok) : ∀ x : Ex, x.ok → Ir (x.ev env).n
  | .mk o n l, h => by
    simp only [Ex.ev]
    exact evOp_ir o n env _ ⟨h.2.2.1, h.2.2.2.1⟩ he (Exs.ev_ir env he l h.2.2.2.2)
theorem Exs.ev_ir (env : Env) (he : env.ok) : ∀ l : List Ex, Exs.ok l → ∀ e ∈ Exs.evs env l, Ir e.n
  | [], _ => by simp [Exs.evs]
  | x :: l, h => by
    intro e he'
    simp only [Exs.evs, List.mem_cons] at he'
    rcases he' with rfl | he'
    · exact Ex.ev_ir env he x h.1
    · exact Exs.ev_ir env he l h.2 e he'
end

theorem wf_ir {k : Int} (h : (Lit.int .i64 k).wf = true) : Ir k := by
  unfold Ir
  simpa [Lit.wf, IntKind.min, IntKind.max, IntKind.signed, IntKind.bits] using h

section
variable {H : Type} {enc : TypeId × Value → H} {w : World}
set_option maxRecDepth 100000 in
theorem open_env2 {r : Reach} {b0 : Nat} {v : Value} {d : DataW H} {p : List MemPlace} (hv : Value.okWide Try.prog w r b0 45 v) (h : DataW.Trod enc Try.prog w 0 (fun _ => true) true 45 v d p) :
    ∃ env : Env, v = env.v0 ∧ env.ok := by
  obtain ⟨c0, c1, c2, y0, y1, y2, m, rfl, _, _, e0, e1, e2⟩ := Go.Joins.open_agg3 Try.underlying45 (by kernel_rfl) cellsEnv hv h
  obtain ⟨o, ho, _, k1⟩ := DataW.trod_int Try.underlying2 e0
  obtain ⟨k, hk, _, k2⟩ := DataW.trod_int Try.underlying2 e1
  obtain ⟨j, hj, _, k3⟩ := DataW.trod_int Try.underlying2 e2
  simp only [List.cons.injEq, and_true] at ho hk hj
  subst ho
  subst hk
  subst hj
  exact ⟨⟨o, k, j⟩, rfl, wf_ir k1, wf_ir k2, wf_ir k3⟩
end

end Go.Proofs.Ytfieoehchghiiaa
