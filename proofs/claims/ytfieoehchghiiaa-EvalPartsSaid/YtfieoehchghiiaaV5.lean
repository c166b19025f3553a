/-
  Walks: eval.do at all expressions, eval.Do, Int, Bool.
-/
import Derived.Test.YtfieoehchghiiaaV4
namespace Go.Proofs.Ytfieoehchghiiaa
open Go.RowKit
set_option linter.unusedVariables false

theorem do_all (h : Nat) : DoC h := by
  induction h using Nat.strongRecOn with
  | ind h ih =>
    intro x v B w k env hh hok hm ht hv hB
    have IH : Hid (DoIH x.ht) := fun y hy v B w k env hok hm ht hv hB => ih y.ht (by omega) y v B w k env (Nat.le_refl _) hok hm ht hv hB
    obtain ⟨km, rfl⟩ : ∃ km, k = km + 1 := by
      cases k with
      | zero => simp [mayB] at hm
      | succ km => exact ⟨km, rfl⟩
    have hargs : ∀ a ∈ x.args, a.ok ∧ mayB km a = true := by
      intro a ha
      simp only [mayB, Bool.and_eq_true, List.all_eq_true] at hm
      refine ⟨?_, hm.2 a ha⟩
      obtain ⟨j, hj, rfl⟩ := List.getElem_of_mem ha
      exact Exs.ok_at x.args (Ex.ok_args hok) j hj
    have hety : ∀ a ∈ x.args, a.ty ≠ 0 → (a.ev env).ty = a.ty := fun a ha h0 => ev_ty env km a (hargs a ha).1 (hargs a ha).2 h0
    cases typed_of hok hm ht with
    | leaf h ha ht' => exact do_leaf x v B w env hv h
    | neg h a ha h1 ht' =>
      have m := hargs a (by simp [ha])
      have e := hety a (by simp [ha]) (by rw [h1]; decide)
      exact do_neg x a IH v B w km env hv hB h ha m.1 m.2 h1 (by rw [e, h1])
    | not h a ha h1 ht' =>
      have m := hargs a (by simp [ha])
      have e := hety a (by simp [ha]) (by rw [h1]; decide)
      exact do_not x a IH v B w km env hv hB h ha m.1 m.2 h1 (by rw [e, h1])
    | ints h a b ha h1 h2 ht' =>
      have m := hargs a (by simp [ha])
      have m2 := hargs b (by simp [ha])
      have n1 : a.ty ≠ 0 := by rw [h1]; decide
      have n2 : b.ty ≠ 0 := by rw [h2]; decide
      exact do_ints x a b IH v B w km env hv hB h ha m.1 m.2 n1 m2.1 m2.2 n2 (by rw [hety a (by simp [ha]) n1, h1]) (by rw [hety b (by simp [ha]) n2, h2])
    | bools h a b ha h1 h2 ht' =>
      have m := hargs a (by simp [ha])
      have m2 := hargs b (by simp [ha])
      have n1 : a.ty ≠ 0 := by rw [h1]; decide
      have n2 : b.ty ≠ 0 := by rw [h2]; decide
      exact do_bools x a b IH v B w km env hv hB h ha m.1 m.2 n1 m2.1 m2.2 n2 (by rw [hety a (by simp [ha]) n1, h1]) (by rw [hety b (by simp [ha]) n2, h2])
    | cond h a b c ha h1 h2 ht' =>
      have m := hargs a (by simp [ha])
      have m2 := hargs b (by simp [ha])
      have m3 := hargs c (by simp [ha])
      have n1 : a.ty ≠ 0 := by rw [h1]; decide
      have n2 : b.ty ≠ 0 := by rw [← ht']; exact ht
      have n3 : c.ty ≠ 0 := by rw [← h2]; exact n2
      cases hz : (a.ev env).b
      · exact do_cond_false x a b c IH v B w km env hv hB h ha m.1 m.2 n1 m2.1 m2.2 n2 m3.1 m3.2 n3 (by rw [hety a (by simp [ha]) n1, h1]) hz
      · exact do_cond_true x a b c IH v B w km env hv hB h ha m.1 m.2 n1 m2.1 m2.2 n2 m3.1 m3.2 n3 (by rw [hety a (by simp [ha]) n1, h1]) hz

theorem results_cell_row2 {P : Program} {fn : Func} {p q : Tmp} {ty : TypeId} (h : fn.results = #[.cell p ty, .tmp q]) (tmps : Array Value) (w : World) (g : Nat) (t : TypeId) (cs : Array Value) (fr : Nat × Nat) (d : TypeDesc)
    (hp : tmps.getD p undef = .pointer (some ⟨g, 0, none⟩)) (hg : w.heap[g]? = some (.cells cs t fr))
    (hu : P.underlying ty = some d) (hd : (match d with | .struct _ | .array _ _ => true | _ => false) = true) (hi : (P.info? ty).map (·.size) = some cs.size) (u : Value) (hq : tmps.getD q undef = u) :
    (results fn tmps).run P w = .ok (.tuple #[.agg cs, u]) w := by
  have hp' : tmps[p]?.getD undef = .pointer (some ⟨g, 0, none⟩) := by simpa using hp
  have hq' : tmps[q]?.getD undef = u := by simpa using hq
  simp [results, h, hp', hq', asAddr, run_loadVar_row w g t ty cs fr d hg hu hd hi]

/-- What eval.Do tells: a type, a number, a truth, an error. -/
structure DoR where
  ty : Int
  n : Int
  b : Bool
  e : Int
def Ex.doR (x : Ex) (env : Env) : DoR := if (x.typ true).2 = 0 then ⟨(x.typ true).1, (x.ev env).n, (x.ev env).b, 0⟩ else ⟨0, 0, false, (x.typ true).2⟩
def DoR.agg (r : DoR) : Value := .agg #[.int .u8 r.ty, .int .i64 r.n, .bool r.b]

theorem val_set {w : World} {g : Nat} {cs : Array Value} (h : Blk w g 48 cs) (hc : cs.size = 3) (a b c : Value) : Blk (((w.setCell ⟨g, 0, none⟩ a).setCell ⟨g, 1, none⟩ b).setCell ⟨g, 2, none⟩ c) g 48 #[a, b, c] := by
  have := ((h.set 0 a).set 1 b).set 2 c
  obtain ⟨cs⟩ := cs
  match cs, hc with
  | [c0, c1, c2], _ => exact this

set_option maxRecDepth 100000 in
set_option maxHeartbeats 2000000 in
theorem Do_c (x : Ex) (hok : x.ok) (v : Value) (B : Nat) (w : World) (env : Env) (hv : ExAt w B v x) (hB : B ≤ w.heap.size) :
    Calls Try.prog 25 #[v, env.v] w fun e w' => e = .returned (.tuple #[(x.doR env).agg, .int .i64 (x.doR env).e]) ∧ Below w.heap.size w w' := by
  have HV := Lib.hid hv
  have htk := @typ_ok x true
  have HE : Hid (x.doR env = if (x.typ true).2 = 0 then ⟨(x.typ true).1, (x.ev env).n, (x.ev env).b, 0⟩ else ⟨0, 0, false, (x.typ true).2⟩) := rfl
  have HOF := Lib.hid (fun W => Of_c x true v B W)
  generalize x.doR env = target at *
  generalize x.typ true = p at *
  obtain ⟨t, er⟩ := p
  dsimp only at htk
  obtain ⟨sv, rfl, hs⟩ := hv
  obtain ⟨a, cap, rfl, hcap, hmx⟩ := hs.slice
  clear hs
  have hbx := ((Blk.new w #[.int .u8 x.op, .int .i64 x.n, .slice a x.args.length cap] 35).alloc (.cells #[.int .i64 env.key, .int .i64 env.val, .int .i64 env.acc] 45)).alloc (.cells #[.int .u8 0, .int .i64 0, .bool false] 48)
  have hbe := (Blk.new_at (w.alloc (.cells #[.int .u8 x.op, .int .i64 x.n, .slice a x.args.length cap] 35)) #[.int .i64 env.key, .int .i64 env.val, .int .i64 env.acc] 45 (k := w.heap.size + 1) (by simp)).alloc (.cells #[.int .u8 0, .int .i64 0, .bool false] 48)
  have hbr := Blk.new_at ((w.alloc (.cells #[.int .u8 x.op, .int .i64 x.n, .slice a x.args.length cap] 35)).alloc (.cells #[.int .i64 env.key, .int .i64 env.val, .int .i64 env.acc] 45)) #[.int .u8 0, .int .i64 0, .bool false] 48 (k := w.heap.size + 1 + 1) (by simp)
  have hW := (((Below.refl _ w).alloc (Nat.le_refl _) (.cells #[.int .u8 x.op, .int .i64 x.n, .slice a x.args.length cap] 35)).alloc (by simp) (.cells #[.int .i64 env.key, .int .i64 env.val, .int .i64 env.acc] 45)).alloc (by simp; omega) (.cells #[.int .u8 0, .int .i64 0, .bool false] 48)
  generalize x.op = o at *
  generalize x.n = n at *
  generalize x.args.length = l at *
  by_cases he : er = 0
  · subst he
    obtain ⟨hm, hj1, hty, hj2⟩ := htk rfl
    clear hj1 hj2
    have hte := ev_ty env 16 x hok hm hty
    have HDO := Lib.hid (fun W (h1 : ExAt W B (.agg #[.int .u8 o, .int .i64 n, .slice a l cap]) x) (h2 : B ≤ W.heap.size) => do_all x.ht x (.agg #[.int .u8 o, .int .i64 n, .slice a l cap]) B W 16 env (Nat.le_refl _) hok hm hty h1 h2)
    have HE2 : Hid (target = ⟨t, (x.ev env).n, (x.ev env).b, 0⟩) := by show _ = _; rw [HE.out, if_pos rfl]
    have hcase : ∃ u : Ev, x.ev env = u := ⟨_, rfl⟩
    obtain ⟨u, hu⟩ := hcase
    rw [hu] at HE2
    have HU := Lib.hid hu
    have t1 := as_int_ok
    have t2 := as_int_no
    have t3 := as_bool_ok
    have t4 := as_bool_no
    clear htk HE hm hty hte hu hcap hmx
    cases u
    all_goals
      unfold Env.v
      go_enter Try.func25, Try.ntmps25
      go_upto_region 1 with fail
      generalize World.alloc (World.alloc (World.alloc w _) _) _ = W at *
      have p0 := hbx.cell 0
      have p1 := hbx.cell 1
      have p2 := hbx.cell 2
      go_wp2_with fail
      refine (HOF.out _ (HV.out.keep (hW.mono hB)) (Nat.le_trans hB hW.size)).mono ?_
      rintro e w1 ⟨rfl, hq1⟩
      have hx1 := hbx.below hq1 hbx.lt
      have he1 := hbe.below hq1 hbe.lt
      have hr1 := hbr.below hq1 hbr.lt
      have hW1 := hW.trans (hq1.mono hW.size)
      clear p0 p1 p2 hbx hbe hbr hW hq1
      have p0 := hx1.cell 0
      have p1 := hx1.cell 1
      have p2 := hx1.cell 2
      have q0 := he1.cell 0
      have q1 := he1.cell 1
      have q2 := he1.cell 2
      go_wp2_with fail
      refine (HDO.out _ (HV.out.keep (hW1.mono hB)) (Nat.le_trans hB hW1.size)).mono ?_
      rw [HU.out]
      rintro e w2 ⟨rfl, hq2⟩
      dsimp only [Ev.v]
      have hr2 := hr1.below hq2 hr1.lt
      have hW2 := hW1.trans (hq2.mono hW1.size)
      have r0 := hr2.cell 0
      have r1 := hr2.cell 1
      have r2 := hr2.cell 2
      have z0 := hr2.free 0
      have z1 := hr2.free 1
      have z2 := hr2.free 2
      clear p0 p1 p2 q0 q1 q2 hx1 he1 hr1 hW1 hq2
      go_wp2_with fail
      rw [HE2.out]
      refine bodyPost_ret (v := .tuple #[.agg #[_, _, _], _]) (results_cell_row2 rfl _ _ (w.heap.size + 1 + 1) 48 _ (0, 0) _ rfl (val_set hr2 rfl _ _ _) Try.underlying48 rfl ?_ (.int .i64 0) rfl) rfl ⟨rfl, ?_⟩
      · as_aux_lemma => kernel_rfl
      · exact ((hW2.setCell (by simp; omega) _).setCell (by simp; omega) _).setCell (by simp; omega) _
  · have HE2 : Hid (target = ⟨0, 0, false, er⟩) := by show _ = _; rw [HE.out, if_neg he]
    have he' : (er != 0) = true := by simpa using he
    clear htk HE he hcap hmx
    unfold Env.v
    go_enter Try.func25, Try.ntmps25
    go_upto_region 1 with fail
    generalize World.alloc (World.alloc (World.alloc w _) _) _ = W at *
    have p0 := hbx.cell 0
    have p1 := hbx.cell 1
    have p2 := hbx.cell 2
    go_wp2_with fail
    refine (HOF.out _ (HV.out.keep (hW.mono hB)) (Nat.le_trans hB hW.size)).mono ?_
    rintro e w1 ⟨rfl, hq1⟩
    have hr1 := hbr.below hq1 hbr.lt
    have hW1 := hW.trans (hq1.mono hW.size)
    clear p0 p1 p2 hbx hbe hbr hW hq1
    have r0 := hr1.cell 0
    have r1 := hr1.cell 1
    have r2 := hr1.cell 2
    have z0 := hr1.free 0
    have z1 := hr1.free 1
    have z2 := hr1.free 2
    go_wp2_with fail
    rw [HE2.out]
    refine bodyPost_ret (v := .tuple #[.agg #[_, _, _], _]) (results_cell_row2 rfl _ _ (w.heap.size + 1 + 1) 48 _ (0, 0) _ rfl (val_set hr1 rfl _ _ _) Try.underlying48 rfl ?_ (.int .i64 er) rfl) rfl ⟨rfl, ?_⟩
    · as_aux_lemma => kernel_rfl
    · exact ((hW1.setCell (by simp; omega) _).setCell (by simp; omega) _).setCell (by simp; omega) _

end Go.Proofs.Ytfieoehchghiiaa
