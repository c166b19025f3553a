/-
  Walks of the reference's types: Accs, of.
  The walk of the reference's of.
  Walks: the reference's Of; KindOf.
-/
import Derived.Test.YtjbchkgkapccnaaGreatDoorMK
import Derived.Test.YtjbchkgkapccnaaGreatDoorF3
import Derived.Test.YtjbchkgkapccnaaGreatDoorMA

namespace Go.Proofs.YtjbchkgkapccnaaGreatDoor
open Go.RowKit
set_option linter.unusedVariables false

theorem Exs.accB_any : ∀ l : List Ex, Exs.accB l = l.any Ex.accB
  | [] => rfl
  | x :: l => by simp only [Exs.accB, List.any_cons]; rw [Exs.accB_any l]

def RAccC (h : Nat) : Prop := ∀ (x : Ex) (v : Value) (B : Nat) (w : World), x.ht ≤ h → ExAt w B v x → B ≤ w.heap.size →
  Calls Tryz.prog 163 #[v] w fun e w' => e = .returned (.bool x.accB) ∧ Below w.heap.size w w'

set_option maxHeartbeats 1000000 in
theorem racc_step (h : Nat) (IH : Hid (∀ x : Ex, x.ht < h → ∀ (v : Value) (B : Nat) (w : World), ExAt w B v x → B ≤ w.heap.size →
      Calls Tryz.prog 163 #[v] w fun e w' => e = .returned (.bool x.accB) ∧ Below w.heap.size w w')) : RAccC h := by
  intro x v B w hh hv hB
  have HLT : Hid (∀ a ∈ x.args, a.ht < h) := fun a ha => by have := Ex.ht_args x a ha; omega
  have HE : Hid (x.accB = (x.op == 4 || x.args.any Ex.accB)) := by show _ = _; rw [Ex.accB_eq, Exs.accB_any]
  obtain ⟨sv, rfl, hs⟩ := hv
  obtain ⟨a, cap, rfl, hcap, hmx⟩ := hs.slice
  have HS := Lib.hid hs
  have hlm : x.args.length ≤ 9223372036854775807 := by unfold maxLen at hmx; omega
  generalize x.op = o at *
  generalize x.n = n at *
  generalize x.args = l at *
  clear hs hh
  have hW := (Below.refl w.heap.size w).alloc (Nat.le_refl _) (.cells #[.int .u8 o, .int .i64 n, .slice a l.length cap] 47)
  have hbx := Blk.new w #[.int .u8 o, .int .i64 n, .slice a l.length cap] 47
  have hz : w.heap.size < (w.alloc (.cells #[.int .u8 o, .int .i64 n, .slice a l.length cap] 47)).heap.size := hbx.lt
  go_enter Tryz.func163, Tryz.ntmps163
  go_wp2
  generalize World.alloc w _ = W at *
  go_loopw [3] (fun q wr => ∃ j : Nat, q = .int .i64 j ∧ j ≤ l.length ∧ Below W.heap.size W wr ∧ (l.drop j).any Ex.accB = l.any Ex.accB) (fun q _ => l.length - (intOf q).toNat)
  case atStart => exact ⟨0, rfl, Nat.zero_le _, Below.refl _ _, rfl⟩
  case round =>
    obtain ⟨j, rfl, hj, hBr0, hr⟩ := hrel
    have hBr := hW.trans (hBr0.mono (by omega))
    have hbr2 := hbx.below hBr0 hz
    have p0 := hbr2.cell 0
    have p2 := hbr2.cell 2
    by_cases hlt : j < l.length
    · obtain ⟨b, off, cp, sv, e1, hb, c0, c1, c2, hsub⟩ := ((HS.out.mono hB).keep hBr).at_ j hlt
      simp only [Value.slice.injEq, true_and] at e1
      obtain ⟨rfl, rfl⟩ := e1
      obtain ⟨a2, cap2, rfl, _, _⟩ := hsub.slice
      rw [List.drop_eq_getElem_cons hlt, List.any_cons] at hr
      have hht := HLT.out _ (List.getElem_mem hlt)
      generalize l[j] = y at *
      have HX : Hid (ExAt wr wr.heap.size (.agg #[.int .u8 y.op, .int .i64 y.n, .slice a2 y.args.length cap2]) y) := ⟨_, rfl, hsub.mono hBr.size⟩
      have HR := Lib.hid hr
      clear hr hsub
      cases hy : y.accB
      all_goals
        have HY := Lib.hid hy
        clear hy
        go_wp2_with (go_at_call 163; refine (IH.out y hht _ _ _ HX.out (Nat.le_refl _)).mono ?_; rintro e w3 ⟨rfl, hb3⟩; rw [HY.out])
      · go_roundw
        case rel => exact ⟨j + 1, by go_num, by omega, hBr0.trans (hb3.mono hBr0.size), by rw [← HR.out, HY.out, Bool.false_or]⟩
        case measure => simp [intOf]; omega
      · go_ret
        exact ⟨ret_bool (by rw [HE.out, ← HR.out, HY.out, Bool.true_or, Bool.or_true]), hBr.trans (hb3.mono hBr.size)⟩
    · rw [List.drop_of_length_le (by omega)] at hr
      have HR := Lib.hid hr
      clear hr
      go_wp2
      go_ret
      exact ⟨ret_bool (by rw [HE.out, ← HR.out, List.any_nil, Bool.or_false]), hBr⟩

theorem racc_all (h : Nat) : RAccC h := by
  induction h using Nat.strongRecOn with
  | ind h ih => exact racc_step h (fun x hx v B w hv hB => ih x.ht hx x v B w (Nat.le_refl _) hv hB)

/-- What the reference makes of the types of what an Op is of. -/
def allGo : List Int → Bool → Int → Int
  | [], _, a => a
  | t :: ts, first, a => allGo ts false (if first || (a == t) then t else 3)
def refTy (op : Int) (ts : List Int) : Int :=
  if ts.any (· == 0) then 0
  else
    let all := allGo ts true 0
    if op = 1 ∨ op = 2 ∨ op = 3 ∨ op = 4 then 1
    else if op = 5 ∨ op = 7 ∨ op = 8 ∨ op = 9 ∨ op = 10 ∨ op = 11 then (if all = 1 then 1 else 0)
    else if op = 6 ∨ op = 16 ∨ op = 17 then (if all = 2 then 2 else 0)
    else if op = 12 ∨ op = 13 then (if all = 1 then 2 else 0)
    else if op = 14 ∨ op = 15 then (if all ≠ 3 then 2 else 0)
    else if op = 18 then (if ts.getD 0 0 = 2 ∧ ts.getD 1 0 = ts.getD 2 0 then ts.getD 1 0 else 0)
    else 0

end Go.Proofs.YtjbchkgkapccnaaGreatDoor

namespace Go.Proofs.YtjbchkgkapccnaaGreatDoor
open Go.RowKit
set_option linter.unusedVariables false

theorem info_u8Q : (Tryz.prog.info? 5).map (fun i => (i.zero, i.size, i.bytes)) = some (some (.int .u8 0), 1, 1) := by kernel_rfl
theorem cell_one_newQ (w : World) (a : Value) (t : TypeId) : ∀ j u, [a][j]? = some u → (w.alloc (.cells #[a] t)).cell? ((⟨w.heap.size, 0, none⟩ : Addr).add j) = some u := by
  intro j u hj
  have hj4 : j < 1 := (List.getElem?_eq_some_iff.1 hj).1
  rw [Addr.add_lit, Nat.zero_add, (Blk.new w #[a] t).cell j]
  simpa using hj

theorem allGo_snoc : ∀ (ts : List Int) (first : Bool) (a t : Int), allGo (ts ++ [t]) first a = if (ts.isEmpty && first) || (allGo ts first a == t) then t else 3
  | [], first, a, t => by simp [allGo]
  | s :: ts, first, a, t => by
    simp only [List.cons_append, allGo]
    rw [allGo_snoc ts false]
    simp

theorem Exs.tys_map : ∀ l : List Ex, Exs.tys l = if (l.map Ex.ty).any (· == 0) then none else some (l.map Ex.ty)
  | [] => rfl
  | x :: l => by
    simp only [Exs.tys, List.map_cons, List.any_cons]
    rw [Exs.tys_map l]
    by_cases h : x.ty = 0
    · simp [h]
    · have h' : (x.ty == 0) = false := by simpa using h
      rw [if_neg h, h', Bool.false_or]
      split <;> rfl

def tyLists : Nat → List (List Int)
  | 0 => [[]]
  | n + 1 => (tyLists n).flatMap fun l => [0 :: l, 1 :: l, 2 :: l]
theorem tyLists_mem : ∀ (ts : List Int), (∀ t ∈ ts, t ∈ ([0, 1, 2] : List Int)) → ts ∈ tyLists ts.length
  | [], _ => by simp [tyLists]
  | t :: ts, h => by
    simp only [List.length_cons, tyLists, List.mem_flatMap]
    refine ⟨ts, tyLists_mem ts fun u hu => h u (by simp [hu]), ?_⟩
    have := h t (by simp)
    simp only [List.mem_cons, List.not_mem_nil, or_false] at this
    rcases this with rfl | rfl | rfl <;> simp
theorem refTy_row : ∀ op ∈ ([1, 2, 3, 4, 5, 6, 7, 8, 9, 10, 11, 12, 13, 14, 15, 16, 17, 18] : List Int), ∀ ts ∈ tyLists (manyN op).toNat, refTy op ts = if ts.any (· == 0) then 0 else getRow ⟨op, ts.getD 0 0, ts.getD 1 0, ts.getD 2 0⟩ kv8 := by decide +kernel
theorem ty_ref {x : Ex} (h1 : 1 ≤ x.op) (h2 : x.op ≤ 18) (hm : manyN x.op = x.args.length) : x.ty = refTy x.op (x.args.map Ex.ty) := by
  rw [Ex.ty_eq, Exs.tys_map]
  have hop : x.op ∈ ([1, 2, 3, 4, 5, 6, 7, 8, 9, 10, 11, 12, 13, 14, 15, 16, 17, 18] : List Int) := by
    have : x.op = 1 ∨ x.op = 2 ∨ x.op = 3 ∨ x.op = 4 ∨ x.op = 5 ∨ x.op = 6 ∨ x.op = 7 ∨ x.op = 8 ∨ x.op = 9 ∨ x.op = 10 ∨ x.op = 11 ∨ x.op = 12 ∨ x.op = 13 ∨ x.op = 14 ∨ x.op = 15 ∨ x.op = 16 ∨ x.op = 17 ∨ x.op = 18 := by omega
    simpa using this
  have hts : x.args.map Ex.ty ∈ tyLists (manyN x.op).toNat := by
    rw [hm]
    have := tyLists_mem (x.args.map Ex.ty) (fun t ht => by
      obtain ⟨a, _, rfl⟩ := List.mem_map.1 ht
      exact Ex.ty_mem a)
    simpa using this
  rw [refTy_row x.op hop _ hts]
  by_cases h : (x.args.map Ex.ty).any (· == 0) = true
  · rw [if_pos h, if_pos h]
  · rw [if_neg h, if_neg h]
theorem refTy_num {op : Int} (h : op = 1 ∨ op = 2 ∨ op = 3 ∨ op = 4) (ts : List Int) (hz : ts.any (· == 0) = false) : refTy op ts = 1 := by
  unfold refTy
  rw [hz]
  simp only [Bool.false_eq_true, if_false]
  rw [if_pos h]
theorem refTy_a {op : Int} (h : op = 5 ∨ op = 7 ∨ op = 8 ∨ op = 9 ∨ op = 10 ∨ op = 11) (ts : List Int) (hz : ts.any (· == 0) = false) : refTy op ts = if (allGo ts true 0 == 1) = true then 1 else 0 := by
  unfold refTy
  rw [hz]
  simp only [Bool.false_eq_true, if_false]
  rw [if_neg (by omega), if_pos h]
  simp
theorem refTy_b {op : Int} (h : op = 6 ∨ op = 16 ∨ op = 17) (ts : List Int) (hz : ts.any (· == 0) = false) : refTy op ts = if (allGo ts true 0 == 2) = true then 2 else 0 := by
  unfold refTy
  rw [hz]
  simp only [Bool.false_eq_true, if_false]
  rw [if_neg (by omega), if_neg (by omega), if_pos h]
  simp
theorem refTy_c {op : Int} (h : op = 12 ∨ op = 13) (ts : List Int) (hz : ts.any (· == 0) = false) : refTy op ts = if (allGo ts true 0 == 1) = true then 2 else 0 := by
  unfold refTy
  rw [hz]
  simp only [Bool.false_eq_true, if_false]
  rw [if_neg (by omega), if_neg (by omega), if_neg (by omega), if_pos h]
  simp
theorem refTy_d {op : Int} (h : op = 14 ∨ op = 15) (ts : List Int) (hz : ts.any (· == 0) = false) : refTy op ts = if (allGo ts true 0 != 3) = true then 2 else 0 := by
  unfold refTy
  rw [hz]
  simp only [Bool.false_eq_true, if_false]
  rw [if_neg (by omega), if_neg (by omega), if_neg (by omega), if_neg (by omega), if_pos h]
  simp
theorem refTy_e {op : Int} (h : op = 18) (ts : List Int) (hz : ts.any (· == 0) = false) : refTy op ts = if (ts.getD 0 0 == 2) = true ∧ (ts.getD 1 0 == ts.getD 2 0) = true then ts.getD 1 0 else 0 := by
  unfold refTy
  rw [hz]
  simp only [Bool.false_eq_true, if_false]
  rw [if_neg (by omega), if_neg (by omega), if_neg (by omega), if_neg (by omega), if_neg (by omega), if_pos h]
  simp
theorem refTy_z {op : Int} (ts : List Int) (hz : ts.any (· == 0) = true) : refTy op ts = 0 := by
  unfold refTy
  rw [if_pos hz]
theorem manyN_range {op : Int} {n : Nat} (h : manyN op = n) (h0 : 0 ≤ op) : 1 ≤ op ∧ op ≤ 18 := by
  unfold manyN at h
  split at h
  · omega
  · omega

def ROfC (h : Nat) : Prop := ∀ (x : Ex) (v : Value) (B : Nat) (w : World) (k : Nat), x.ht ≤ h → x.ok → mayB k x = true → ExAt w B v x → B ≤ w.heap.size →
  Calls Tryz.prog 164 #[v] w fun e w' => e = .returned (.int .u8 x.ty) ∧ Below w.heap.size w w'

structure OfRel (l : List Ex) (W : World) (s q : Value) (wr : World) : Prop where
  ex : ∃ k : Nat, q = .int .i64 k ∧ k ≤ l.length ∧ Below W.heap.size W wr ∧ wr.ownsRow W.heap.size 5 1 s k (((l.take k).map Ex.ty).map (Value.int .u8))

set_option maxRecDepth 100000 in
set_option maxHeartbeats 8000000 in
theorem rof_step (h : Nat) (IH : Hid (∀ x : Ex, x.ht < h → ∀ (v : Value) (B : Nat) (w : World) (k : Nat), x.ok → mayB k x = true → ExAt w B v x → B ≤ w.heap.size →
      Calls Tryz.prog 164 #[v] w fun e w' => e = .returned (.int .u8 x.ty) ∧ Below w.heap.size w w')) : ROfC h := by
  intro x v B w kk hh hok hmay hv hB
  have HLT : Hid (∀ a ∈ x.args, a.ht < h) := fun a ha => by have := Ex.ht_args x a ha; omega
  have HOK := Lib.hid (Exs.ok_at x.args (Ex.ok_args hok))
  obtain ⟨km, hkm⟩ : ∃ km, kk = km + 1 := by
    cases kk with
    | zero => simp [mayB] at hmay
    | succ km => exact ⟨km, rfl⟩
  subst hkm
  simp only [mayB, Bool.and_eq_true, List.all_eq_true] at hmay
  have hshape := of_decide_eq_true hmay.1
  have HMA := Lib.hid hmay.2
  have hopr := manyN_range hshape.1 (Ex.ok_op hok).1
  have HT := Lib.hid (ty_ref hopr.1 hopr.2 hshape.1)
  have hl3 : x.args.length ≤ 3 := by
    have := hshape.1
    unfold manyN at this
    repeat' split at this
    all_goals omega
  have hmany := hshape.1
  obtain ⟨i0, hi, hz0, hz1, hz2⟩ := info_parts info_u8Q
  obtain ⟨sv, rfl, hs⟩ := hv
  obtain ⟨a, cap, rfl, hcap, hmx⟩ := hs.slice
  have HS := Lib.hid hs
  generalize x.ty = tx at *
  generalize x.op = o at *
  generalize x.n = n at *
  generalize x.args = l at *
  obtain ⟨hop1, hop2⟩ := hopr
  clear hs hh hok hmay hshape hmx
  have HMANY := Lib.hid hmany
  clear hmany
  have hW := (Below.refl w.heap.size w).alloc (Nat.le_refl _) (.cells #[.int .u8 o, .int .i64 n, .slice a l.length cap] 47)
  have hbx := Blk.new w #[.int .u8 o, .int .i64 n, .slice a l.length cap] 47
  have hz : w.heap.size < (w.alloc (.cells #[.int .u8 o, .int .i64 n, .slice a l.length cap] 47)).heap.size := hbx.lt
  go_enter Tryz.func164, Tryz.ntmps164
  go_wp2_with fail
  generalize World.alloc w _ = W at *
  go_loopw [3, 4] (fun s q wr => OfRel l W s q wr) (fun _ q _ => l.length - (intOf q).toNat)
  case atStart => exact ⟨⟨0, rfl, Nat.zero_le _, Below.refl _ _, World.ownsRow_nil _ _ _ _⟩⟩
  case round =>
    obtain ⟨j, rfl, hj, hBr0, hown⟩ := hrel.ex
    clear hrel
    have hBr := hW.trans (hBr0.mono (Nat.le_of_lt hz))
    have hbr2 := hbx.below hBr0 hz
    have p0 := hbr2.cell 0
    have p2 := hbr2.cell 2
    by_cases hlt : j < l.length
    · obtain ⟨b, off, cp, sv, e1, hb, c0, c1, c2, hsub⟩ := ((HS.out.mono hB).keep hBr).at_ j hlt
      simp only [Value.slice.injEq, true_and] at e1
      obtain ⟨rfl, rfl⟩ := e1
      obtain ⟨a2, cap2, rfl, _, _⟩ := hsub.slice
      have hht := HLT.out _ (List.getElem_mem hlt)
      have hoky := HOK.out j hlt
      have hmy := HMA.out _ (List.getElem_mem hlt)
      have htk : Hid (((l.take (j + 1)).map Ex.ty).map (Value.int .u8) = ((l.take j).map Ex.ty).map (Value.int .u8) ++ [.int .u8 (l[j]'hlt).ty]) := by
        show _ = _
        rw [List.take_succ_eq_append_getElem hlt, List.map_append, List.map_append]
        rfl
      generalize l[j] = y at *
      have HX : Hid (ExAt wr wr.heap.size (.agg #[.int .u8 y.op, .int .i64 y.n, .slice a2 y.args.length cap2]) y) := ⟨_, rfl, hsub.mono hBr.size⟩
      have HMY := Lib.hid hmy
      clear hsub hmy
      obtain ⟨ty, hty⟩ : ∃ t, y.ty = t := ⟨_, rfl⟩
      rw [hty] at htk
      have HTY := Lib.hid hty
      clear hty
      have hl := Lib.hid hl3
      generalize hxs : ((l.take j).map Ex.ty).map (Value.int .u8) = xs at *
      clear hxs
      have hbw := hBr0.size
      go_wp2_with (first
        | (go_at_call 164; refine (IH.out y hht _ _ _ km hoky HMY.out HX.out (Nat.le_refl _)).mono ?_; rw [HTY.out]; rintro e w3 ⟨rfl, hb3⟩; have hown2 := hown.kept (row := none) ⟨hb3.os, hb3.tape, hb3.output, hb3.size, fun k hk _ => hb3.block k hk⟩ (by cases hv : Value.ownBlock _ <;> simp); have hB3 := hBr0.trans (hb3.mono hbw); have hbw3 := hB3.size)
        | (at_builtin; refine wpList_append_own _ rfl _ _ 68 rfl W.heap.size 5 i0 (.int .u8 0) 1 1 Tryz.underlying68 hi hz0 hz1 hz2 rfl (by decide) u3 j xs rfl (hown2.alloc _) ⟨w3.heap.size, 0, none⟩ 1 1 [.int .u8 ty] rfl rfl (cell_one_newQ _ _ _) (by simp [Value.oneCell']) (by unfold maxLen; have := hl.out; omega) (by have := hl.out; omega) (by simp; omega) ?_; intro v' w4 hown4 hgrow4 _))
      have hB4 : Below W.heap.size W w4 := (hB3.alloc hbw3 _).grown hgrow4 (by simp; omega) (fun k hk => (hown2.lt k hk).1)
      go_roundw
      case rel => exact ⟨⟨j + 1, by go_num, by omega, hB4, by rw [htk.out]; exact hown4⟩⟩
      case measure => simp [intOf]; omega
    · obtain rfl : j = l.length := by omega
      rw [List.take_of_length_le (Nat.le_refl _)] at hown
      have hsl := Sl.of_owns hown
      obtain ⟨g0, ad, cp3, rfl, g1, g2, g3⟩ := id hsl
      have HSL := Lib.hid hsl
      have hlts : (l.map Ex.ty).length = l.length := by simp
      generalize l.map Ex.ty = ts at *
      have HBr := Lib.hid hBr
      have HL := Lib.hid hlts
      clear hown g0 g1 g2 g3 hsl hlts hBr hBr0 hW hbx HLT HOK HMA IH HS hbr2 hlt hj
      generalize hll : l.length = len at *
      have HLL := Lib.hid hll
      clear hll
      have hlen3 : (len : Int) ≤ 3 := by omega
      go_wp2_with fail
      go_loop [5, 6] (fun s q => ∃ j : Nat, q = .int .i64 j ∧ j ≤ len ∧ s = .int .u8 (allGo (ts.take j) true 0) ∧ (ts.take j).any (· == 0) = false) (fun _ q => len - (intOf q).toNat)
      case atStart => exact ⟨0, rfl, Nat.zero_le _, rfl, rfl⟩
      case round =>
        obtain ⟨j, rfl, hj, rfl, hz0'⟩ := hrel
        by_cases hlt2 : j < len
        · obtain ⟨bt, ot, ct, e1, hbt, hjl, hcell⟩ := HSL.out.int j hlt2
          simp only [Value.slice.injEq, true_and] at e1
          obtain ⟨rfl, rfl⟩ := e1
          have htk2 : Hid (ts.take (j + 1) = ts.take j ++ [ts[j]'hjl]) := List.take_succ_eq_append_getElem hjl
          have hmem : ts[j]'hjl ∈ ts := List.getElem_mem hjl
          generalize ts[j] = t at *
          have hemp : Hid ((ts.take j).isEmpty = decide (j = 0)) := by
            show _ = _
            rw [Bool.eq_iff_iff, List.isEmpty_iff, decide_eq_true_eq, List.take_eq_nil_iff]
            constructor
            · rintro (h | h)
              · exact h
              · rw [h] at hjl; simp at hjl
            · exact fun h => .inl h
          have HZ := Lib.hid hz0'
          have HMEM := Lib.hid hmem
          obtain ⟨al, hal⟩ : ∃ a, allGo (ts.take j) true 0 = a := ⟨_, rfl⟩
          have HAL := Lib.hid hal
          rw [hal]
          clear hz0' hmem hal
          cases ht0 : (t == 0)
          · have HT0 := Lib.hid ht0
            have hnew : Hid ((ts.take (j + 1)).any (· == 0) = false) := by
              show _ = _
              rw [htk2.out, List.any_append, HZ.out, Bool.false_or]
              simpa using ht0
            by_cases hj0 : j = 0
            · have hj1 : ((j : Int) == 0) = true := by rw [beq_iff_eq]; omega
              have hal2 : Hid (allGo (ts.take (j + 1)) true 0 = t) := by
                show _ = _
                rw [htk2.out, allGo_snoc, hemp.out, decide_eq_true hj0]
                simp
              clear hj0
              go_wp2_with fail
              go_round
              case rel => exact ⟨j + 1, by go_num, by omega, by rw [hal2.out], hnew.out⟩
              case measure => simp [intOf]; omega
            · have hj1 : ((j : Int) == 0) = false := by rw [beq_eq_false_iff_ne]; omega
              cases hq : (al == t)
              all_goals
                have HQ := Lib.hid hq
              · have hal2 : Hid (allGo (ts.take (j + 1)) true 0 = 3) := by
                  show _ = _
                  rw [htk2.out, allGo_snoc, hemp.out, decide_eq_false hj0, HAL.out, HQ.out]
                  rfl
                clear hj0
                go_wp2_with fail
                go_round
                case rel => exact ⟨j + 1, by go_num, by omega, by rw [hal2.out], hnew.out⟩
                case measure => simp [intOf]; omega
              · have hal2 : Hid (allGo (ts.take (j + 1)) true 0 = t) := by
                  show _ = _
                  rw [htk2.out, allGo_snoc, hemp.out, decide_eq_false hj0, HAL.out, HQ.out]
                  rfl
                clear hj0
                go_wp2_with fail
                go_round
                case rel => exact ⟨j + 1, by go_num, by omega, by rw [hal2.out], hnew.out⟩
                case measure => simp [intOf]; omega
          · have hv : Hid (tx = 0) := by
              show _ = _
              rw [HT.out]
              refine refTy_z ts ?_
              rw [List.any_eq_true]
              exact ⟨t, HMEM.out, ht0⟩
            go_wp2_with fail
            go_ret
            exact ⟨ret_int hv.out.symm, HBr.out⟩
        · obtain rfl : j = len := by omega
          have htl : ts.take j = ts := List.take_of_length_le (by have := HL.out; omega)
          rw [htl] at hz0' ⊢
          have HZ := Lib.hid hz0'
          obtain ⟨al, hal⟩ : ∃ a, allGo ts true 0 = a := ⟨_, rfl⟩
          have HAL := Lib.hid hal
          rw [hal]
          clear hz0' htl hal
          have hops : o = 1 ∨ o = 2 ∨ o = 3 ∨ o = 4 ∨ o = 5 ∨ o = 6 ∨ o = 7 ∨ o = 8 ∨ o = 9 ∨ o = 10 ∨ o = 11 ∨ o = 12 ∨ o = 13 ∨ o = 14 ∨ o = 15 ∨ o = 16 ∨ o = 17 ∨ o = 18 := by omega
          rcases hops with ho | ho | ho | ho | ho | ho | ho | ho | ho | ho | ho | ho | ho | ho | ho | ho | ho | ho
          · -- 1
            have e1 : (o == 1) = true := by rw [ho]; decide
            have hv : Hid (tx = 1) := HT.out.trans (refTy_num (by omega) ts HZ.out)
            clear ho
            go_wp2_with fail
            go_ret
            exact ⟨ret_int hv.out.symm, HBr.out⟩
          · -- 2
            have e1 : (o == 1) = false := by rw [ho]; decide
            have e2 : (o == 2) = true := by rw [ho]; decide
            have hv : Hid (tx = 1) := HT.out.trans (refTy_num (by omega) ts HZ.out)
            clear ho
            go_wp2_with fail
            go_ret
            exact ⟨ret_int hv.out.symm, HBr.out⟩
          · -- 3
            have e1 : (o == 1) = false := by rw [ho]; decide
            have e2 : (o == 2) = false := by rw [ho]; decide
            have e3 : (o == 3) = true := by rw [ho]; decide
            have hv : Hid (tx = 1) := HT.out.trans (refTy_num (by omega) ts HZ.out)
            clear ho
            go_wp2_with fail
            go_ret
            exact ⟨ret_int hv.out.symm, HBr.out⟩
          · -- 4
            have e1 : (o == 1) = false := by rw [ho]; decide
            have e2 : (o == 2) = false := by rw [ho]; decide
            have e3 : (o == 3) = false := by rw [ho]; decide
            have e4 : (o == 4) = true := by rw [ho]; decide
            have hv : Hid (tx = 1) := HT.out.trans (refTy_num (by omega) ts HZ.out)
            clear ho
            go_wp2_with fail
            go_ret
            exact ⟨ret_int hv.out.symm, HBr.out⟩
          · -- 5
            have e1 : (o == 1) = false := by rw [ho]; decide
            have e2 : (o == 2) = false := by rw [ho]; decide
            have e3 : (o == 3) = false := by rw [ho]; decide
            have e4 : (o == 4) = false := by rw [ho]; decide
            have e5 : (o == 5) = true := by rw [ho]; decide
            have hv0 := Lib.hid (HT.out.trans (refTy_a (op := o) (by omega) ts HZ.out))
            rw [HAL.out] at hv0
            clear ho
            cases hq : (al == 1)
            all_goals
              rw [hq] at hv0
            · have hv : Hid (tx = 0) := hv0.out
              go_wp2_with fail
              go_ret
              exact ⟨ret_int hv.out.symm, HBr.out⟩
            · have hv : Hid (tx = 1) := hv0.out
              go_wp2_with fail
              go_ret
              exact ⟨ret_int hv.out.symm, HBr.out⟩
          · -- 6
            have e1 : (o == 1) = false := by rw [ho]; decide
            have e2 : (o == 2) = false := by rw [ho]; decide
            have e3 : (o == 3) = false := by rw [ho]; decide
            have e4 : (o == 4) = false := by rw [ho]; decide
            have e5 : (o == 5) = false := by rw [ho]; decide
            have e7 : (o == 7) = false := by rw [ho]; decide
            have e8 : (o == 8) = false := by rw [ho]; decide
            have e9 : (o == 9) = false := by rw [ho]; decide
            have e10 : (o == 10) = false := by rw [ho]; decide
            have e11 : (o == 11) = false := by rw [ho]; decide
            have e6 : (o == 6) = true := by rw [ho]; decide
            have hv0 := Lib.hid (HT.out.trans (refTy_b (op := o) (by omega) ts HZ.out))
            rw [HAL.out] at hv0
            clear ho
            cases hq : (al == 2)
            all_goals
              rw [hq] at hv0
            · have hv : Hid (tx = 0) := hv0.out
              go_wp2_with fail
              go_ret
              exact ⟨ret_int hv.out.symm, HBr.out⟩
            · have hv : Hid (tx = 2) := hv0.out
              go_wp2_with fail
              go_ret
              exact ⟨ret_int hv.out.symm, HBr.out⟩
          · -- 7
            have e1 : (o == 1) = false := by rw [ho]; decide
            have e2 : (o == 2) = false := by rw [ho]; decide
            have e3 : (o == 3) = false := by rw [ho]; decide
            have e4 : (o == 4) = false := by rw [ho]; decide
            have e5 : (o == 5) = false := by rw [ho]; decide
            have e7 : (o == 7) = true := by rw [ho]; decide
            have hv0 := Lib.hid (HT.out.trans (refTy_a (op := o) (by omega) ts HZ.out))
            rw [HAL.out] at hv0
            clear ho
            cases hq : (al == 1)
            all_goals
              rw [hq] at hv0
            · have hv : Hid (tx = 0) := hv0.out
              go_wp2_with fail
              go_ret
              exact ⟨ret_int hv.out.symm, HBr.out⟩
            · have hv : Hid (tx = 1) := hv0.out
              go_wp2_with fail
              go_ret
              exact ⟨ret_int hv.out.symm, HBr.out⟩
          · -- 8
            have e1 : (o == 1) = false := by rw [ho]; decide
            have e2 : (o == 2) = false := by rw [ho]; decide
            have e3 : (o == 3) = false := by rw [ho]; decide
            have e4 : (o == 4) = false := by rw [ho]; decide
            have e5 : (o == 5) = false := by rw [ho]; decide
            have e7 : (o == 7) = false := by rw [ho]; decide
            have e8 : (o == 8) = true := by rw [ho]; decide
            have hv0 := Lib.hid (HT.out.trans (refTy_a (op := o) (by omega) ts HZ.out))
            rw [HAL.out] at hv0
            clear ho
            cases hq : (al == 1)
            all_goals
              rw [hq] at hv0
            · have hv : Hid (tx = 0) := hv0.out
              go_wp2_with fail
              go_ret
              exact ⟨ret_int hv.out.symm, HBr.out⟩
            · have hv : Hid (tx = 1) := hv0.out
              go_wp2_with fail
              go_ret
              exact ⟨ret_int hv.out.symm, HBr.out⟩
          · -- 9
            have e1 : (o == 1) = false := by rw [ho]; decide
            have e2 : (o == 2) = false := by rw [ho]; decide
            have e3 : (o == 3) = false := by rw [ho]; decide
            have e4 : (o == 4) = false := by rw [ho]; decide
            have e5 : (o == 5) = false := by rw [ho]; decide
            have e7 : (o == 7) = false := by rw [ho]; decide
            have e8 : (o == 8) = false := by rw [ho]; decide
            have e9 : (o == 9) = true := by rw [ho]; decide
            have hv0 := Lib.hid (HT.out.trans (refTy_a (op := o) (by omega) ts HZ.out))
            rw [HAL.out] at hv0
            clear ho
            cases hq : (al == 1)
            all_goals
              rw [hq] at hv0
            · have hv : Hid (tx = 0) := hv0.out
              go_wp2_with fail
              go_ret
              exact ⟨ret_int hv.out.symm, HBr.out⟩
            · have hv : Hid (tx = 1) := hv0.out
              go_wp2_with fail
              go_ret
              exact ⟨ret_int hv.out.symm, HBr.out⟩
          · -- 10
            have e1 : (o == 1) = false := by rw [ho]; decide
            have e2 : (o == 2) = false := by rw [ho]; decide
            have e3 : (o == 3) = false := by rw [ho]; decide
            have e4 : (o == 4) = false := by rw [ho]; decide
            have e5 : (o == 5) = false := by rw [ho]; decide
            have e7 : (o == 7) = false := by rw [ho]; decide
            have e8 : (o == 8) = false := by rw [ho]; decide
            have e9 : (o == 9) = false := by rw [ho]; decide
            have e10 : (o == 10) = true := by rw [ho]; decide
            have hv0 := Lib.hid (HT.out.trans (refTy_a (op := o) (by omega) ts HZ.out))
            rw [HAL.out] at hv0
            clear ho
            cases hq : (al == 1)
            all_goals
              rw [hq] at hv0
            · have hv : Hid (tx = 0) := hv0.out
              go_wp2_with fail
              go_ret
              exact ⟨ret_int hv.out.symm, HBr.out⟩
            · have hv : Hid (tx = 1) := hv0.out
              go_wp2_with fail
              go_ret
              exact ⟨ret_int hv.out.symm, HBr.out⟩
          · -- 11
            have e1 : (o == 1) = false := by rw [ho]; decide
            have e2 : (o == 2) = false := by rw [ho]; decide
            have e3 : (o == 3) = false := by rw [ho]; decide
            have e4 : (o == 4) = false := by rw [ho]; decide
            have e5 : (o == 5) = false := by rw [ho]; decide
            have e7 : (o == 7) = false := by rw [ho]; decide
            have e8 : (o == 8) = false := by rw [ho]; decide
            have e9 : (o == 9) = false := by rw [ho]; decide
            have e10 : (o == 10) = false := by rw [ho]; decide
            have e11 : (o == 11) = true := by rw [ho]; decide
            have hv0 := Lib.hid (HT.out.trans (refTy_a (op := o) (by omega) ts HZ.out))
            rw [HAL.out] at hv0
            clear ho
            cases hq : (al == 1)
            all_goals
              rw [hq] at hv0
            · have hv : Hid (tx = 0) := hv0.out
              go_wp2_with fail
              go_ret
              exact ⟨ret_int hv.out.symm, HBr.out⟩
            · have hv : Hid (tx = 1) := hv0.out
              go_wp2_with fail
              go_ret
              exact ⟨ret_int hv.out.symm, HBr.out⟩
          · -- 12
            have e1 : (o == 1) = false := by rw [ho]; decide
            have e2 : (o == 2) = false := by rw [ho]; decide
            have e3 : (o == 3) = false := by rw [ho]; decide
            have e4 : (o == 4) = false := by rw [ho]; decide
            have e5 : (o == 5) = false := by rw [ho]; decide
            have e7 : (o == 7) = false := by rw [ho]; decide
            have e8 : (o == 8) = false := by rw [ho]; decide
            have e9 : (o == 9) = false := by rw [ho]; decide
            have e10 : (o == 10) = false := by rw [ho]; decide
            have e11 : (o == 11) = false := by rw [ho]; decide
            have e6 : (o == 6) = false := by rw [ho]; decide
            have e16 : (o == 16) = false := by rw [ho]; decide
            have e17 : (o == 17) = false := by rw [ho]; decide
            have e12 : (o == 12) = true := by rw [ho]; decide
            have hv0 := Lib.hid (HT.out.trans (refTy_c (op := o) (by omega) ts HZ.out))
            rw [HAL.out] at hv0
            clear ho
            cases hq : (al == 1)
            all_goals
              rw [hq] at hv0
            · have hv : Hid (tx = 0) := hv0.out
              go_wp2_with fail
              go_ret
              exact ⟨ret_int hv.out.symm, HBr.out⟩
            · have hv : Hid (tx = 2) := hv0.out
              go_wp2_with fail
              go_ret
              exact ⟨ret_int hv.out.symm, HBr.out⟩
          · -- 13
            have e1 : (o == 1) = false := by rw [ho]; decide
            have e2 : (o == 2) = false := by rw [ho]; decide
            have e3 : (o == 3) = false := by rw [ho]; decide
            have e4 : (o == 4) = false := by rw [ho]; decide
            have e5 : (o == 5) = false := by rw [ho]; decide
            have e7 : (o == 7) = false := by rw [ho]; decide
            have e8 : (o == 8) = false := by rw [ho]; decide
            have e9 : (o == 9) = false := by rw [ho]; decide
            have e10 : (o == 10) = false := by rw [ho]; decide
            have e11 : (o == 11) = false := by rw [ho]; decide
            have e6 : (o == 6) = false := by rw [ho]; decide
            have e16 : (o == 16) = false := by rw [ho]; decide
            have e17 : (o == 17) = false := by rw [ho]; decide
            have e12 : (o == 12) = false := by rw [ho]; decide
            have e13 : (o == 13) = true := by rw [ho]; decide
            have hv0 := Lib.hid (HT.out.trans (refTy_c (op := o) (by omega) ts HZ.out))
            rw [HAL.out] at hv0
            clear ho
            cases hq : (al == 1)
            all_goals
              rw [hq] at hv0
            · have hv : Hid (tx = 0) := hv0.out
              go_wp2_with fail
              go_ret
              exact ⟨ret_int hv.out.symm, HBr.out⟩
            · have hv : Hid (tx = 2) := hv0.out
              go_wp2_with fail
              go_ret
              exact ⟨ret_int hv.out.symm, HBr.out⟩
          · -- 14
            have e1 : (o == 1) = false := by rw [ho]; decide
            have e2 : (o == 2) = false := by rw [ho]; decide
            have e3 : (o == 3) = false := by rw [ho]; decide
            have e4 : (o == 4) = false := by rw [ho]; decide
            have e5 : (o == 5) = false := by rw [ho]; decide
            have e7 : (o == 7) = false := by rw [ho]; decide
            have e8 : (o == 8) = false := by rw [ho]; decide
            have e9 : (o == 9) = false := by rw [ho]; decide
            have e10 : (o == 10) = false := by rw [ho]; decide
            have e11 : (o == 11) = false := by rw [ho]; decide
            have e6 : (o == 6) = false := by rw [ho]; decide
            have e16 : (o == 16) = false := by rw [ho]; decide
            have e17 : (o == 17) = false := by rw [ho]; decide
            have e12 : (o == 12) = false := by rw [ho]; decide
            have e13 : (o == 13) = false := by rw [ho]; decide
            have e14 : (o == 14) = true := by rw [ho]; decide
            have hv0 := Lib.hid (HT.out.trans (refTy_d (op := o) (by omega) ts HZ.out))
            rw [HAL.out] at hv0
            clear ho
            cases hq : (al != 3)
            all_goals
              rw [hq] at hv0
            · have hv : Hid (tx = 0) := hv0.out
              go_wp2_with fail
              go_ret
              exact ⟨ret_int hv.out.symm, HBr.out⟩
            · have hv : Hid (tx = 2) := hv0.out
              go_wp2_with fail
              go_ret
              exact ⟨ret_int hv.out.symm, HBr.out⟩
          · -- 15
            have e1 : (o == 1) = false := by rw [ho]; decide
            have e2 : (o == 2) = false := by rw [ho]; decide
            have e3 : (o == 3) = false := by rw [ho]; decide
            have e4 : (o == 4) = false := by rw [ho]; decide
            have e5 : (o == 5) = false := by rw [ho]; decide
            have e7 : (o == 7) = false := by rw [ho]; decide
            have e8 : (o == 8) = false := by rw [ho]; decide
            have e9 : (o == 9) = false := by rw [ho]; decide
            have e10 : (o == 10) = false := by rw [ho]; decide
            have e11 : (o == 11) = false := by rw [ho]; decide
            have e6 : (o == 6) = false := by rw [ho]; decide
            have e16 : (o == 16) = false := by rw [ho]; decide
            have e17 : (o == 17) = false := by rw [ho]; decide
            have e12 : (o == 12) = false := by rw [ho]; decide
            have e13 : (o == 13) = false := by rw [ho]; decide
            have e14 : (o == 14) = false := by rw [ho]; decide
            have e15 : (o == 15) = true := by rw [ho]; decide
            have hv0 := Lib.hid (HT.out.trans (refTy_d (op := o) (by omega) ts HZ.out))
            rw [HAL.out] at hv0
            clear ho
            cases hq : (al != 3)
            all_goals
              rw [hq] at hv0
            · have hv : Hid (tx = 0) := hv0.out
              go_wp2_with fail
              go_ret
              exact ⟨ret_int hv.out.symm, HBr.out⟩
            · have hv : Hid (tx = 2) := hv0.out
              go_wp2_with fail
              go_ret
              exact ⟨ret_int hv.out.symm, HBr.out⟩
          · -- 16
            have e1 : (o == 1) = false := by rw [ho]; decide
            have e2 : (o == 2) = false := by rw [ho]; decide
            have e3 : (o == 3) = false := by rw [ho]; decide
            have e4 : (o == 4) = false := by rw [ho]; decide
            have e5 : (o == 5) = false := by rw [ho]; decide
            have e7 : (o == 7) = false := by rw [ho]; decide
            have e8 : (o == 8) = false := by rw [ho]; decide
            have e9 : (o == 9) = false := by rw [ho]; decide
            have e10 : (o == 10) = false := by rw [ho]; decide
            have e11 : (o == 11) = false := by rw [ho]; decide
            have e6 : (o == 6) = false := by rw [ho]; decide
            have e16 : (o == 16) = true := by rw [ho]; decide
            have hv0 := Lib.hid (HT.out.trans (refTy_b (op := o) (by omega) ts HZ.out))
            rw [HAL.out] at hv0
            clear ho
            cases hq : (al == 2)
            all_goals
              rw [hq] at hv0
            · have hv : Hid (tx = 0) := hv0.out
              go_wp2_with fail
              go_ret
              exact ⟨ret_int hv.out.symm, HBr.out⟩
            · have hv : Hid (tx = 2) := hv0.out
              go_wp2_with fail
              go_ret
              exact ⟨ret_int hv.out.symm, HBr.out⟩
          · -- 17
            have e1 : (o == 1) = false := by rw [ho]; decide
            have e2 : (o == 2) = false := by rw [ho]; decide
            have e3 : (o == 3) = false := by rw [ho]; decide
            have e4 : (o == 4) = false := by rw [ho]; decide
            have e5 : (o == 5) = false := by rw [ho]; decide
            have e7 : (o == 7) = false := by rw [ho]; decide
            have e8 : (o == 8) = false := by rw [ho]; decide
            have e9 : (o == 9) = false := by rw [ho]; decide
            have e10 : (o == 10) = false := by rw [ho]; decide
            have e11 : (o == 11) = false := by rw [ho]; decide
            have e6 : (o == 6) = false := by rw [ho]; decide
            have e16 : (o == 16) = false := by rw [ho]; decide
            have e17 : (o == 17) = true := by rw [ho]; decide
            have hv0 := Lib.hid (HT.out.trans (refTy_b (op := o) (by omega) ts HZ.out))
            rw [HAL.out] at hv0
            clear ho
            cases hq : (al == 2)
            all_goals
              rw [hq] at hv0
            · have hv : Hid (tx = 0) := hv0.out
              go_wp2_with fail
              go_ret
              exact ⟨ret_int hv.out.symm, HBr.out⟩
            · have hv : Hid (tx = 2) := hv0.out
              go_wp2_with fail
              go_ret
              exact ⟨ret_int hv.out.symm, HBr.out⟩
          · -- 18
            have e1 : (o == 1) = false := by rw [ho]; decide
            have e2 : (o == 2) = false := by rw [ho]; decide
            have e3 : (o == 3) = false := by rw [ho]; decide
            have e4 : (o == 4) = false := by rw [ho]; decide
            have e5 : (o == 5) = false := by rw [ho]; decide
            have e7 : (o == 7) = false := by rw [ho]; decide
            have e8 : (o == 8) = false := by rw [ho]; decide
            have e9 : (o == 9) = false := by rw [ho]; decide
            have e10 : (o == 10) = false := by rw [ho]; decide
            have e11 : (o == 11) = false := by rw [ho]; decide
            have e6 : (o == 6) = false := by rw [ho]; decide
            have e16 : (o == 16) = false := by rw [ho]; decide
            have e17 : (o == 17) = false := by rw [ho]; decide
            have e12 : (o == 12) = false := by rw [ho]; decide
            have e13 : (o == 13) = false := by rw [ho]; decide
            have e14 : (o == 14) = false := by rw [ho]; decide
            have e15 : (o == 15) = false := by rw [ho]; decide
            have e18 : (o == 18) = true := by rw [ho]; decide
            have hv0 := Lib.hid (HT.out.trans (refTy_e (op := o) ho ts HZ.out))
            have hl3' : j = 3 := by
              have h1 := HMANY.out
              rw [ho] at h1
              have h2 : manyN 18 = 3 := by decide
              omega
            obtain ⟨bt, ot, ct, q1, hbt, hl0, d0⟩ := HSL.out.int 0 (by omega)
            obtain ⟨bt1, ot1, ct1, q2, _, hl1, d1⟩ := HSL.out.int 1 (by omega)
            obtain ⟨bt2, ot2, ct2, q3, _, hl2, d2⟩ := HSL.out.int 2 (by omega)
            simp only [Value.slice.injEq, true_and] at q1 q2 q3
            obtain ⟨rfl, rfl⟩ := q1
            simp only [Option.some.injEq, Addr.mk.injEq, and_true] at q2 q3
            obtain ⟨⟨rfl, rfl⟩, rfl⟩ := q2
            obtain ⟨⟨rfl, rfl⟩, _⟩ := q3
            have g0 : Hid (ts.getD 0 0 = ts[0]'hl0) := by show _ = _; simp [List.getD, hl0]
            have g1 : Hid (ts.getD 1 0 = ts[1]'hl1) := by show _ = _; simp [List.getD, hl1]
            have g2 : Hid (ts.getD 2 0 = ts[2]'hl2) := by show _ = _; simp [List.getD, hl2]
            rw [g0.out, g1.out, g2.out] at hv0
            rw [Nat.add_zero] at d0
            generalize ts[0] = t0 at *
            generalize ts[1] = t1 at *
            generalize ts[2] = t2 at *
            have hj0 : (0 : Int) < (j : Int) := by omega
            have hj1 : (1 : Int) < (j : Int) := by omega
            have hj2 : (2 : Int) < (j : Int) := by omega
            clear ho hl3' g0 g1 g2
            cases hq1 : (t0 == 2)
            · have hv : Hid (tx = 0) := by show _ = _; rw [hv0.out, hq1]; rfl
              go_wp2_with fail
              go_quiet (fail)
              go_wp2_with fail
              go_ret
              exact ⟨ret_int hv.out.symm, below_drewN HBr.out _⟩
            · cases hq2 : (t1 == t2)
              · have hv : Hid (tx = 0) := by show _ = _; rw [hv0.out, hq1, hq2]; rfl
                go_wp2_with fail
                go_quiet (fail)
                go_wp2_with fail
                go_ret
                exact ⟨ret_int hv.out.symm, below_drewN HBr.out _⟩
              · have hv : Hid (tx = t1) := by show _ = _; rw [hv0.out, hq1, hq2]; rfl
                go_wp2_with fail
                go_quiet (fail)
                go_wp2_with fail
                go_ret
                exact ⟨ret_int hv.out.symm, below_drewN HBr.out _⟩

end Go.Proofs.YtjbchkgkapccnaaGreatDoor

namespace Go.Proofs.YtjbchkgkapccnaaGreatDoor
open Go.RowKit
set_option linter.unusedVariables false

theorem rof_all (h : Nat) : ROfC h := by
  induction h using Nat.strongRecOn with
  | ind h ih => exact rof_step h (fun x hx v B w k hok hm hv hB => ih x.ht hx x v B w k (Nat.le_refl _) hok hm hv hB)

set_option maxHeartbeats 2000000 in
theorem rOf_c (x : Ex) (hok : x.ok) (acc : Bool) (v : Value) (B : Nat) (w : World) (hv : ExAt w B v x) (hB : B ≤ w.heap.size) :
    Calls Tryz.prog 138 #[v, .bool acc] w fun e w' => e = .returned (.tuple #[.int .u8 (x.typ acc).1, .int .i64 (x.typ acc).2]) ∧ Below w.heap.size w w' := by
  have HE : Hid (x.typ acc = if x.mayT = true then (if acc = false ∧ x.accB = true then (0, 90) else if x.ty = 0 then (0, 91) else (x.ty, 0)) else (0, 2)) := rfl
  have HV := Lib.hid hv
  obtain ⟨sv, rfl, hs⟩ := hv
  obtain ⟨a, cap, rfl, hcap, hmx⟩ := hs.slice
  have hW := (Below.refl w.heap.size w).alloc (Nat.le_refl _) (.cells #[.int .u8 x.op, .int .i64 x.n, .slice a x.args.length cap] 47)
  have hbx := Blk.new w #[.int .u8 x.op, .int .i64 x.n, .slice a x.args.length cap] 47
  generalize hgo : x.op = o at *
  generalize hgn : x.n = n at *
  generalize hgl : x.args.length = ll at *
  clear hs hgo hgn hgl hcap hmx
  generalize x.typ acc = p at *
  have hz := hbx.lt
  cases hm : x.mayT
  · have HM := Lib.hid hm
    have HE2 : Hid (p = (0, 2)) := by show _ = _; rw [HE.out, hm]; rfl
    clear hm HE
    go_enter Tryz.func138, Tryz.ntmps138
    go_upto_region 1 with fail
    generalize World.alloc w _ = W at *
    have c0 := hbx.cell 0
    have c1 := hbx.cell 1
    have c2 := hbx.cell 2
    go_wp2_with (go_at_call 59; refine (rMay_c x hok _ B _ (HV.out.keep (hW.mono hB)) (Nat.le_trans hB hW.size)).mono ?_; rw [HM.out]; rintro e w1 ⟨rfl, hb1⟩)
    go_ret2
    refine ⟨?_, hW.trans (hb1.mono hW.size)⟩
    rw [HE2.out]
    rfl
  · have HM := Lib.hid hm
    have hE1 := HE.out
    rw [hm, if_pos rfl] at hE1
    clear HE
    have hac : (acc = false ∧ x.accB = true) ∨ (acc = true ∨ x.accB = false) := by cases acc <;> cases x.accB <;> simp
    rcases hac with ⟨rfl, hac⟩ | hac
    · have HA := Lib.hid hac
      have HE2 : Hid (p = (0, 90)) := by show _ = _; rw [hE1, if_pos ⟨rfl, hac⟩]
      clear hm hE1 hac
      go_enter Tryz.func138, Tryz.ntmps138
      go_upto_region 1 with fail
      generalize World.alloc w _ = W at *
      have c0 := hbx.cell 0
      have c1 := hbx.cell 1
      have c2 := hbx.cell 2
      go_wp2_with fail
      refine (rMay_c x hok _ B _ (HV.out.keep (hW.mono hB)) (Nat.le_trans hB hW.size)).mono ?_
      rw [HM.out]
      rintro e w1 ⟨rfl, hb1⟩
      have hbx1 := hbx.below hb1 hz
      have hW1 := hW.trans (hb1.mono hW.size)
      have d0 := hbx1.cell 0
      have d1 := hbx1.cell 1
      have d2 := hbx1.cell 2
      clear c0 c1 c2
      go_wp2_with (go_at_call 163; refine (racc_all x.ht x _ B _ (Nat.le_refl _) (HV.out.keep (hW1.mono hB)) (Nat.le_trans hB hW1.size)).mono ?_; rw [HA.out]; rintro e w2 ⟨rfl, hb2⟩)
      go_ret2
      refine ⟨?_, hW1.trans (hb2.mono hW1.size)⟩
      rw [HE2.out]
      rfl
    · have hE2 := hE1
      rw [if_neg (by rintro ⟨rfl, h⟩; rcases hac with h' | h' <;> simp_all)] at hE2
      obtain ⟨ty, hty⟩ : ∃ t, x.ty = t := ⟨_, rfl⟩
      rw [hty] at hE2
      have HTY := Lib.hid hty
      have hmay : Hid (mayB 16 x = true) := hm
      clear hm hE1 hty
      have hcase : (acc = true) ∨ (acc = false ∧ x.accB = false) := by cases acc <;> simp_all
      clear hac
      cases ht0 : (ty == 0)
      all_goals
        rcases hcase with rfl | ⟨rfl, hac⟩
        all_goals
          have HE3 := Lib.hid hE2
          try have HA := Lib.hid hac
          try clear hac
          clear hE2
          go_enter Tryz.func138, Tryz.ntmps138
          go_upto_region 1 with fail
          generalize World.alloc w _ = W at *
          have c0 := hbx.cell 0
          have c1 := hbx.cell 1
          have c2 := hbx.cell 2
          go_wp2_with fail
          refine (rMay_c x hok _ B _ (HV.out.keep (hW.mono hB)) (Nat.le_trans hB hW.size)).mono ?_
          rw [HM.out]
          rintro e w1 ⟨rfl, hb1⟩
          have hbx1 := hbx.below hb1 hz
          have hW1 := hW.trans (hb1.mono hW.size)
          have hz1 := hbx1.lt
          have d0 := hbx1.cell 0
          have d1 := hbx1.cell 1
          have d2 := hbx1.cell 2
          clear c0 c1 c2
      · go_wp2_with (go_at_call 164; refine (rof_all x.ht x _ B _ 16 (Nat.le_refl _) hok hmay.out (HV.out.keep (hW1.mono hB)) (Nat.le_trans hB hW1.size)).mono ?_; rw [HTY.out]; rintro e w2 ⟨rfl, hb2⟩)
        go_ret2
        refine ⟨?_, hW1.trans (hb2.mono hW1.size)⟩
        rw [HE3.out, if_neg (by simpa using ht0)]
        rfl
      · go_wp2_with fail
        refine (racc_all x.ht x _ B _ (Nat.le_refl _) (HV.out.keep (hW1.mono hB)) (Nat.le_trans hB hW1.size)).mono ?_
        rw [HA.out]
        rintro e w2 ⟨rfl, hb2⟩
        have hbx2 := hbx1.below hb2 hz1
        have hW2 := hW1.trans (hb2.mono hW1.size)
        have f0 := hbx2.cell 0
        have f1 := hbx2.cell 1
        have f2 := hbx2.cell 2
        clear d0 d1 d2
        go_wp2_with (go_at_call 164; refine (rof_all x.ht x _ B _ 16 (Nat.le_refl _) hok hmay.out (HV.out.keep (hW2.mono hB)) (Nat.le_trans hB hW2.size)).mono ?_; rw [HTY.out]; rintro e w3 ⟨rfl, hb3⟩)
        go_ret2
        refine ⟨?_, hW2.trans (hb3.mono hW2.size)⟩
        rw [HE3.out, if_neg (by simpa using ht0)]
        rfl
      · go_wp2_with (go_at_call 164; refine (rof_all x.ht x _ B _ 16 (Nat.le_refl _) hok hmay.out (HV.out.keep (hW1.mono hB)) (Nat.le_trans hB hW1.size)).mono ?_; rw [HTY.out]; rintro e w2 ⟨rfl, hb2⟩)
        go_ret2
        refine ⟨?_, hW1.trans (hb2.mono hW1.size)⟩
        rw [HE3.out, if_pos (by simpa using ht0)]
        rfl
      · go_wp2_with fail
        refine (racc_all x.ht x _ B _ (Nat.le_refl _) (HV.out.keep (hW1.mono hB)) (Nat.le_trans hB hW1.size)).mono ?_
        rw [HA.out]
        rintro e w2 ⟨rfl, hb2⟩
        have hbx2 := hbx1.below hb2 hz1
        have hW2 := hW1.trans (hb2.mono hW1.size)
        have f0 := hbx2.cell 0
        have f1 := hbx2.cell 1
        have f2 := hbx2.cell 2
        clear d0 d1 d2
        go_wp2_with (go_at_call 164; refine (rof_all x.ht x _ B _ 16 (Nat.le_refl _) hok hmay.out (HV.out.keep (hW2.mono hB)) (Nat.le_trans hB hW2.size)).mono ?_; rw [HTY.out]; rintro e w3 ⟨rfl, hb3⟩)
        go_ret2
        refine ⟨?_, hW2.trans (hb3.mono hW2.size)⟩
        rw [HE3.out, if_pos (by simpa using ht0)]
        rfl

end Go.Proofs.YtjbchkgkapccnaaGreatDoor
