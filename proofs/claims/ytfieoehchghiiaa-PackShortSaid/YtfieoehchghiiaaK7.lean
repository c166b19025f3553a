/-
  Walk: kind.of.
-/
import Derived.Test.YtfieoehchghiiaaK6
namespace Go.Proofs.Ytfieoehchghiiaa
open Go.RowKit
set_option linter.unusedVariables false

theorem Exs.thin_mem : ∀ (l : List Ex) (x : Ex), Exs.thin l → x ∈ l → x.thin
  | y :: l, x, h, hm => by
    simp only [Exs.thin] at h
    rcases List.mem_cons.1 hm with rfl | hm
    · exact h.1
    · exact Exs.thin_mem l x h.2 hm
theorem Ex.thin_args (x : Ex) (h : x.thin) : x.args.length ≤ 3 ∧ ∀ a ∈ x.args, a.thin := by
  obtain ⟨o, n, l⟩ := x
  simp only [Ex.thin] at h
  exact ⟨h.1, fun a ha => Exs.thin_mem l a h.2 ha⟩

def OfC (h : Nat) : Prop := ∀ (x : Ex) (v : Value) (B : Nat) (w : World) (bm : Nat), x.ht ≤ h → ExAt w B v x → x.thin → B ≤ w.heap.size → MapIs w bm kv8 →
  Calls Try.prog 92 #[.map (some bm), v] w fun e w' => e = .returned (.int .u8 x.ty) ∧ Below w.heap.size w w'

set_option maxHeartbeats 1000000 in
theorem of_step (h : Nat) (IH : Hid (∀ x : Ex, x.ht < h → ∀ (v : Value) (B : Nat) (w : World) (bm : Nat), ExAt w B v x → x.thin → B ≤ w.heap.size → MapIs w bm kv8 →
      Calls Try.prog 92 #[.map (some bm), v] w fun e w' => e = .returned (.int .u8 x.ty) ∧ Below w.heap.size w w')) : OfC h := by
  intro x v B w bm hh hv hth hB hm
  have HLT : Hid (∀ a ∈ x.args, a.ht < h) := fun a ha => by have := Ex.ht_args x a ha; omega
  have HTH := Lib.hid (Ex.thin_args x hth)
  have HE := Lib.hid (Ex.ty_eq x)
  obtain ⟨sv, rfl, hs⟩ := hv
  obtain ⟨a, cap, rfl, hcap, hmx⟩ := hs.slice
  have HS := Lib.hid hs
  have hl3 : x.args.length ≤ 3 := HTH.out.1
  generalize x.op = o at *
  generalize x.n = n at *
  generalize x.args = l at *
  clear hs hh hth
  go_enter Try.func92, Try.ntmps92
  go_wp2
  have hW := (((Below.refl w.heap.size w).alloc (Nat.le_refl _) (.cells #[.int .u8 o, .int .i64 n, .slice a l.length cap] 35)).alloc (by simp) (.cells #[.int .u8 o, .int .u8 0, .int .u8 0, .int .u8 0] 144))
  have hR := Blk.new_at (w.alloc (.cells #[.int .u8 o, .int .i64 n, .slice a l.length cap] 35)) #[.int .u8 o, .int .u8 0, .int .u8 0, .int .u8 0] 144 (k := w.heap.size + 1) (by simp)
  generalize World.alloc (World.alloc w _) _ = W at *
  go_loopw [6, 7, 14] (fun _ _ q wr => ∃ (j : Nat) (ts : List Int), q = .int .i64 j ∧ j ≤ l.length ∧ ts.length = j ∧ Below w.heap.size w wr ∧
    Blk wr (w.heap.size + 1) 144 #[.int .u8 o, .int .u8 (ts.getD 0 0), .int .u8 (ts.getD 1 0), .int .u8 (ts.getD 2 0)] ∧ Exs.tys l = (Exs.tys (l.drop j)).map (ts ++ ·)) (fun _ _ q _ => l.length - (intOf q).toNat)
  case atStart => exact ⟨0, [], rfl, Nat.zero_le _, rfl, hW, hR, by simp⟩
  case round =>
    obtain ⟨j, ts, rfl, hj, hts, hBr, hRr, hr⟩ := hrel
    by_cases hlt : j < l.length
    · obtain ⟨b, off, cp, sv, e1, hb, c0, c1, c2, hsub⟩ := ((HS.out.mono hB).keep hBr).at_ j hlt
      simp only [Value.slice.injEq, true_and] at e1
      obtain ⟨rfl, rfl⟩ := e1
      obtain ⟨a2, cap2, rfl, _, _⟩ := hsub.slice
      rw [List.drop_eq_getElem_cons hlt] at hr
      simp only [Exs.tys] at hr
      have hht := HLT.out _ (List.getElem_mem hlt)
      have hthx := HTH.out.2 _ (List.getElem_mem hlt)
      have hx : ∀ X, Below wr.heap.size wr X → ExAt X X.heap.size (.agg #[.int .u8 (l[j]'hlt).op, .int .i64 (l[j]'hlt).n, .slice a2 (l[j]'hlt).args.length cap2]) (l[j]'hlt) := fun X hX => ⟨_, rfl, (hsub.keep (hX.mono hBr.size)).mono (Nat.le_trans hBr.size hX.size)⟩
      generalize l[j] = y at *
      have HX := Lib.hid hx
      have HR := Lib.hid hr
      clear hr hx hsub
      have hlo : w.heap.size + 1 < wr.heap.size := hRr.lt
      have hj3 : j < 3 := by omega
      have hcl : (#[.int .u8 o, .int .u8 (ts.getD 0 0), .int .u8 (ts.getD 1 0), .int .u8 (ts.getD 2 0)] : Array Value)[1 + j]? = some (.int .u8 0) := by
        have h0 : ts.getD j 0 = 0 := by rw [List.getD_eq_getElem?_getD, List.getElem?_eq_none (by omega)]; rfl
        obtain rfl | rfl | rfl : j = 0 ∨ j = 1 ∨ j = 2 := by omega
        all_goals simpa using h0
      cases hy : (y.ty == 0)
      all_goals
        have HY := Lib.hid hy
        have HY2 := Lib.hid hy
        clear hy
        go_wp2_with (go_at_call 92; refine (IH.out y hht _ _ _ bm (HX.out _ ((Below.refl _ _).alloc (Nat.le_refl _) _)) hthx (Nat.le_refl _) ((hm.below hBr hm.lt).alloc _)).mono ?_; rintro e w3 ⟨rfl, hb3⟩; have hR3 := (hRr.alloc (.cells #[.int .u8 y.op, .int .i64 y.n, .slice a2 y.args.length cap2] 35)).below hb3 (by simp; omega); have r1 := (hR3.cell (1 + j)).trans hcl; have r2 := hR3.free (1 + j); have r3 := HY.out)
      · have HNE := Lib.hid (show ¬ y.ty = 0 by have := HY2.out; simpa using this)
        have hset := hR3.set (1 + j) (.int .u8 y.ty)
        go_roundw
        case rel =>
          refine ⟨j + 1, ts ++ [y.ty], by go_num, by omega, by simp [hts], ?_, ?_, ?_⟩
          · exact ((hBr.alloc hBr.size _).trans (hb3.mono (by have := hBr.size; simp; omega))).setCell (by show _ ≤ w.heap.size + 1; omega) _
          · have hg : ∀ i, i ≠ j → (ts ++ [y.ty]).getD i 0 = ts.getD i 0 := by
              intro i hi
              rw [List.getD_eq_getElem?_getD, List.getD_eq_getElem?_getD]
              by_cases hij : i < j
              · rw [List.getElem?_append_left (by omega)]
              · rw [List.getElem?_eq_none (by simp; omega), List.getElem?_eq_none (by omega)]
            have hg2 : (ts ++ [y.ty]).getD j 0 = y.ty := by subst hts; simp
            obtain rfl | rfl | rfl : j = 0 ∨ j = 1 ∨ j = 2 := by omega
            · rw [hg2, hg 1 (by omega), hg 2 (by omega)]; exact hset
            · rw [hg2, hg 0 (by omega), hg 2 (by omega)]; exact hset
            · rw [hg2, hg 0 (by omega), hg 1 (by omega)]; exact hset
          · rw [HR.out, if_neg HNE.out, Option.map_map]
            congr 1
            funext z
            simp
        case measure => simp [intOf]; omega
      · have HEQ := Lib.hid (show y.ty = 0 by have := HY2.out; simpa using this)
        go_ret
        refine ⟨ret_int (by rw [HE.out, HR.out, if_pos HEQ.out]; rfl), ?_⟩
        exact ((hBr.alloc hBr.size _).trans (hb3.mono (by have := hBr.size; simp; omega))).setCell (by show _ ≤ w.heap.size + 1; omega) _
    · rw [List.drop_of_length_le (by omega)] at hr
      have HR := Lib.hid hr
      clear hr
      have hmr := hm.below hBr hm.lt
      have c0 := hRr.cell 0
      have c1 := hRr.cell 1
      have c2 := hRr.cell 2
      have c3 := hRr.cell 3
      go_wp2_with (at_lookup; refine wpList_lookup_row _ rfl _ _ rfl bm kv8 rfl hmr ⟨o, ts.getD 0 0, ts.getD 1 0, ts.getD 2 0⟩ rfl ?_)
      go_ret
      exact ⟨ret_int (by rw [HE.out, HR.out]; simp [Exs.tys]), hBr⟩

theorem of_all (h : Nat) : OfC h := by
  induction h using Nat.strongRecOn with
  | ind h ih => exact of_step h (fun x hx v B w bm hv ht hB hm => ih x.ht hx x v B w bm (Nat.le_refl _) hv ht hB hm)
theorem of_c (x : Ex) (v : Value) (B : Nat) (w : World) (bm : Nat) (hv : ExAt w B v x) (ht : x.thin) (hB : B ≤ w.heap.size) (hm : MapIs w bm kv8) :
    Calls Try.prog 92 #[.map (some bm), v] w fun e w' => e = .returned (.int .u8 x.ty) ∧ Below w.heap.size w w' := of_all x.ht x v B w bm (Nat.le_refl _) hv ht hB hm

end Go.Proofs.Ytfieoehchghiiaa
