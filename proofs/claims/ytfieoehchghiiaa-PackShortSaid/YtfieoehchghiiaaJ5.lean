/-
  Walks: job.readers, job.Find.
-/
import Derived.Test.YtfieoehchghiiaaJ2
namespace Go.Proofs.Ytfieoehchghiiaa
open Go.RowKit
set_option linter.unusedVariables false

theorem info_intJ : (Try.prog.info? 3).map (fun i => (i.zero, i.size, i.bytes)) = some (some (.int .i64 0), 1, 8) := by kernel_rfl
theorem cell_one_newJ (w : World) (a : Value) (t : TypeId) : ∀ j u, [a][j]? = some u → (w.alloc (.cells #[a] t)).cell? ((⟨w.heap.size, 0, none⟩ : Addr).add j) = some u := by
  intro j u hj
  have hj4 : j < 1 := (List.getElem?_eq_some_iff.1 hj).1
  rw [Addr.add_lit, Nat.zero_add, (Blk.new w #[a] t).cell j]
  simpa using hj

def readersGo (at_ : Int) : List Nd → Nat → List Int
  | [], _ => []
  | d :: l, k => bif d.ins.any (fun y => at_ == y) then (k : Int) :: readersGo at_ l (k + 1) else readersGo at_ l (k + 1)
def Jb.readers (j : Jb) (at_ : Int) : List Int := readersGo at_ j.nodes 0

structure RdRel (at_ : Int) (l : List Nd) (w : World) (s q : Value) (wr : World) : Prop where
  ex : ∃ (k : Nat) (xs : List Int), q = .int .i64 k ∧ k ≤ l.length ∧ Below w.heap.size w wr ∧ wr.ownsRow w.heap.size 3 1 s xs.length (xs.map (Value.int .i64)) ∧ xs.length ≤ k ∧ xs ++ readersGo at_ (l.drop k) k = readersGo at_ l 0

set_option maxHeartbeats 1000000 in
theorem readers_c (jb : Jb) (at_ : Int) (v : Value) (B : Nat) (w : World) (hv : JbAt w B v jb) (hB : B ≤ w.heap.size) (hlen : jb.nodes.length ≤ 1000) :
    Calls Try.prog 35 #[v, .int .i64 at_] w fun e w' => ∃ v', e = .returned v' ∧ Sl w' w'.heap.size 1 v' (jb.readers at_).length ((jb.readers at_).map (Value.int .i64)) ∧ Below w.heap.size w w' := by
  obtain ⟨i0, hi, hz0, hz1, hz2⟩ := info_parts info_intJ
  have HE : Hid (jb.readers at_ = readersGo at_ jb.nodes 0) := rfl
  obtain ⟨sv, rfl, hs⟩ := hv
  obtain ⟨a, cap, rfl, hcap, hmx⟩ := hs.slice
  have HS := Lib.hid hs
  generalize jb.nodes = l at *
  generalize jb.par = par at *
  generalize jb.readers at_ = rr at *
  clear hs
  have hW := (Below.refl w.heap.size w).alloc (Nat.le_refl _) (.cells #[.int .i64 par, .slice a l.length cap] 24)
  go_enter Try.func35, Try.ntmps35
  go_wp2_with fail
  generalize World.alloc w _ = W at *
  go_loopw [5, 11] (fun s q wr => RdRel at_ l w s q wr) (fun _ q _ => l.length - (intOf q).toNat)
  case atStart => exact ⟨⟨0, [], rfl, Nat.zero_le _, hW, World.ownsRow_nil _ _ _ _, Nat.le_refl _, rfl⟩⟩
  case round =>
    obtain ⟨k, xs, rfl, hk, hBr, hown, hxk, hr⟩ := hrel.ex
    clear hrel
    by_cases hlt : k < l.length
    · obtain ⟨b, off, cp, e1, hb, hu, iv, sv, c0, c1, c2, c3, c4, c5, c6, hin⟩ := ((HS.out.mono hB).keep hBr).at_ k hlt
      simp only [Value.slice.injEq, true_and] at e1
      obtain ⟨rfl, rfl⟩ := e1
      obtain ⟨a2, cap2, rfl, _, _⟩ := hin.2.slice
      obtain ⟨_, ai, capi, rfl, _, _, _⟩ := id hin.1
      rw [List.drop_eq_getElem_cons hlt] at hr
      simp only [readersGo] at hr
      have hsl := fun X (hX : Below w.heap.size wr X) => hin.1.below hX
      generalize l[k] = y at *
      have HSL := Lib.hid hsl
      have HR := Lib.hid hr
      rename_i hx1 hx2 hx3
      clear hr hin hsl hx1 hx2 hx3
      have hbw : w.heap.size ≤ wr.heap.size := hBr.size
      cases hc : y.ins.any (fun z => at_ == z)
      all_goals
        have HC := Lib.hid hc
        clear hc
      · go_wp2_with (go_at_call 78; refine (ContainsInt_c y.ins _ _ at_ _ _ (HSL.out _ ((Below.refl _ _).alloc hbw _)) rfl).mono ?_; rintro e w3 ⟨rfl, rfl⟩; rw [HC.out])
        go_roundw
        case rel => exact ⟨⟨k + 1, xs, by go_num, by omega, hBr.alloc hbw _, hown.alloc _, by omega, by rw [← HR.out, HC.out]; rfl⟩⟩
        case measure => simp [intOf]; omega
      · have hBn := hBr.alloc hbw (.cells #[.string y.uid, .int .u8 y.kind, .slice ai y.ins.length capi, .int .u8 y.x.op, .int .i64 y.x.n, .slice a2 y.x.args.length cap2, .int .i64 y.n] 37)
        have hon := hown.alloc (.cells #[.string y.uid, .int .u8 y.kind, .slice ai y.ins.length capi, .int .u8 y.x.op, .int .i64 y.x.n, .slice a2 y.x.args.length cap2, .int .i64 y.n] 37)
        go_upto_region 6 with (go_at_call 78; refine (ContainsInt_c y.ins _ _ at_ _ _ (HSL.out _ ((Below.refl _ _).alloc hbw _)) rfl).mono ?_; rintro e w3 ⟨rfl, rfl⟩; rw [HC.out])
        generalize World.alloc wr _ = W2 at *
        have hbw2 := hBn.size
        go_wp2_with (at_builtin; refine wpList_append_own _ rfl (.tmp 20) (.tmp 22) 32 rfl w.heap.size 3 i0 (.int .i64 0) 1 8 Try.underlying32 hi hz0 hz1 hz2 rfl (by decide) u5 xs.length (xs.map (Value.int .i64)) rfl (hon.alloc _) ⟨W2.heap.size, 0, none⟩ 1 1 [.int .i64 (k : Int)] rfl rfl (cell_one_newJ _ _ _) (by simp [Value.oneCell']) (by unfold maxLen; omega) (by omega) (by simp; omega) ?_; intro v1' w3 hown3 hgrow3 _)
        have hb3 : ∀ k, u5.ownBlock = some k → w.heap.size ≤ k := fun k hk => (hon.lt k hk).1
        have hB3 : Below w.heap.size w w3 := (hBn.alloc hbw2 _).grown hgrow3 (by simp; omega) hb3
        go_roundw
        case rel =>
          refine ⟨⟨k + 1, xs ++ [(k : Int)], by go_num, by omega, hB3, ?_, by simp; omega, by rw [← HR.out, HC.out]; simp⟩⟩
          simpa using hown3
        case measure => simp [intOf]; omega
    · rw [List.drop_of_length_le (by omega)] at hr
      simp only [readersGo, List.append_nil] at hr
      subst hr
      have HO := Lib.hid (Sl.of_owns hown)
      go_wp2
      go_ret
      refine ⟨_, rfl, ?_, hBr⟩
      rw [HE.out]
      exact HO.out

set_option maxHeartbeats 1000000 in
theorem find1_c (d : Nd) (u : ByteArray) (b : Nat) (v : Value) (B : Nat) (w : World) (hv : NdAt w B v d) (hu : w.cell? ⟨b, 0, none⟩ = some (.string u)) (hb : b < w.heap.size) :
    Calls Try.prog 39 #[v, .pointer (some ⟨b, 0, none⟩)] w fun e w' => e = .returned (.bool (decide (d.uid = u))) ∧ Below w.heap.size w w' := by
  obtain ⟨iv, sv, rfl, ⟨hi, hs⟩, hu2⟩ := hv
  obtain ⟨_, ai, capi, rfl, hc1, hm1, _⟩ := id hi
  obtain ⟨ax, capx, rfl, hc2, hm2⟩ := hs.slice
  have hbi := bytes_inj d.uid u
  have HU := Lib.hid hu
  by_cases hxy : d.uid = u
  · have HXY : Hid (decide (d.uid = u) = true) := decide_eq_true hxy
    have hq : (d.uid.toList == u.toList) = true := by simpa using hbi.2 hxy
    clear hbi hxy
    go_enter Try.func39, Try.ntmps39
    go_wp2
    go_ret
    exact ⟨ret_bool HXY.out.symm, (Below.refl _ _).alloc (Nat.le_refl _) _⟩
  · have HXY : Hid (decide (d.uid = u) = false) := decide_eq_false hxy
    have hq : (d.uid.toList == u.toList) = false := by simpa using fun h => hxy (hbi.1 h)
    clear hbi hxy
    go_enter Try.func39, Try.ntmps39
    go_wp2
    go_ret
    exact ⟨ret_bool HXY.out.symm, (Below.refl _ _).alloc (Nat.le_refl _) _⟩

set_option maxHeartbeats 1000000 in
theorem IndexNode_c (l : List Nd) (n : Nat) (u : ByteArray) (bu : Nat) (v : Value) (B : Nat) (w : World) (h : NodesAt w B l v) (hB : B ≤ w.heap.size) (hn : l.length = n) (hb : w.cell? ⟨bu, 0, none⟩ = some (.string u)) (hbl : bu < w.heap.size) :
    Calls Try.prog 38 #[v, .func (.func 39) #[] #[.pointer (some ⟨bu, 0, none⟩)]] w fun e w' => e = .returned (.int .i64 (idxZ (fun d : Nd => decide (d.uid = u)) l 0)) ∧ Below w.heap.size w w' := by
  obtain ⟨a, cap, rfl, hcap, hmx⟩ := h.slice
  have HS := Lib.hid h
  have HB := Lib.hid hb
  have hlm : n ≤ 9223372036854775807 := by unfold maxLen at hmx; omega
  have HN := Lib.hid hn
  rw [hn]
  clear h hb hn hcap hmx
  go_enter Try.func38, Try.ntmps38
  go_wp2
  go_loopw [8] (fun q wr => ∃ k : Nat, q = .int .i64 k ∧ k ≤ n ∧ Below w.heap.size w wr ∧ idxZ (fun d : Nd => decide (d.uid = u)) (l.drop k) k = idxZ (fun d : Nd => decide (d.uid = u)) l 0) (fun q _ => n - (intOf q).toNat)
  case atStart => exact ⟨0, rfl, Nat.zero_le _, Below.refl _ _, rfl⟩
  case round =>
    obtain ⟨k, rfl, hk, hBr, hr⟩ := hrel
    by_cases hlt : k < n
    · obtain ⟨b, off, cp, e1, hb', hu, iv, sv, c0, c1, c2, c3, c4, c5, c6, hin⟩ := ((HS.out.mono hB).keep hBr).at_ k (by have := HN.out; omega)
      rw [HN.out] at e1
      simp only [Value.slice.injEq, true_and] at e1
      obtain ⟨rfl, rfl⟩ := e1
      obtain ⟨a2, cap2, rfl, _, _⟩ := hin.2.slice
      obtain ⟨_, ai, capi, rfl, _, _, _⟩ := id hin.1
      rw [List.drop_eq_getElem_cons (by have := HN.out; omega)] at hr
      simp only [idxZ] at hr
      generalize l[k]'_ = y at *
      have HY : Hid (NdAt wr w.heap.size (.agg #[.string y.uid, .int .u8 y.kind, .slice ai y.ins.length capi, .int .u8 y.x.op, .int .i64 y.x.n, .slice a2 y.x.args.length cap2, .int .i64 y.n]) y) := ⟨_, _, rfl, hin, hu⟩
      have HR := Lib.hid hr
      rename_i hx1 hx2 hx3
      clear hr hin hx1 hx2 hx3 hu
      have hbw : w.heap.size ≤ wr.heap.size := hBr.size
      have HBr := Lib.hid ((hBr.cell (p := ⟨bu, 0, none⟩) hbl).trans HB.out)
      cases hc : decide (y.uid = u)
      all_goals
        have HC := Lib.hid hc
        clear hc
        go_wp2_with (go_at_call 39; refine (find1_c y u bu _ _ _ HY.out HBr.out (by omega)).mono ?_; rintro e w3 ⟨rfl, hb3⟩; rw [HC.out])
      · go_roundw
        case rel => exact ⟨k + 1, by go_num, by omega, hBr.trans (hb3.mono hbw), by rw [← HR.out, HC.out]; rfl⟩
        case measure => simp [intOf]; omega
      · go_ret
        exact ⟨ret_int (by rw [← HR.out, HC.out]; rfl), hBr.trans (hb3.mono hbw)⟩
    · rw [List.drop_of_length_le (by have := HN.out; omega)] at hr
      have HR := Lib.hid hr
      clear hr
      go_wp2
      go_ret
      exact ⟨ret_int (by rw [← HR.out]; rfl), hBr⟩

def Jb.find (j : Jb) (u : ByteArray) : Int := idxZ (fun d : Nd => decide (d.uid = u)) j.nodes 0

set_option maxHeartbeats 1000000 in
theorem Find_c (jb : Jb) (u : ByteArray) (v : Value) (B : Nat) (w : World) (hv : JbAt w B v jb) (hB : B ≤ w.heap.size) :
    Calls Try.prog 15 #[v, .string u] w fun e w' => e = .returned (.int .i64 (jb.find u)) ∧ Below w.heap.size w w' := by
  have hmf : ∀ (fn : Fn) (first cap : Array Value) (w : World), (Instr.makeFunc fn first cap).run Try.prog w = .ok (.func fn first cap) w := fun _ _ _ _ => rfl
  obtain ⟨sv, rfl, hs⟩ := hv
  obtain ⟨a, cap, rfl, hcap, hmx⟩ := hs.slice
  have HS := Lib.hid hs
  have HE : Hid (jb.find u = idxZ (fun d : Nd => decide (d.uid = u)) jb.nodes 0) := rfl
  generalize jb.nodes = l at *
  generalize jb.par = par at *
  have hb2 := ((Below.refl w.heap.size w).alloc (Nat.le_refl _) (.cells #[.int .i64 par, .slice a l.length cap] 24)).alloc (by simp) (.cells #[.string u] 9)
  have hN := Lib.hid ((Blk.new_at (w.alloc (.cells #[.int .i64 par, .slice a l.length cap] 24)) #[.string u] 9 (k := w.heap.size + 1) (by simp)).cell 0)
  have HSZ : Hid (((w.alloc (.cells #[.int .i64 par, .slice a l.length cap] 24)).alloc (.cells #[.string u] 9)).heap.size = w.heap.size + 2) := by simp [Hid]
  clear hs
  go_enter Try.func15, Try.ntmps15
  go_wp2_with (go_at_call 38; refine (IndexNode_c l _ u (w.heap.size + 1) _ w.heap.size _ ((HS.out.mono hB).keep hb2) hb2.size rfl hN.out (by have := HSZ.out; omega)).mono ?_; rintro e w3 ⟨rfl, hb3⟩)
  go_ret
  exact ⟨ret_int HE.out.symm, hb2.trans (hb3.mono hb2.size)⟩

end Go.Proofs.Ytfieoehchghiiaa
