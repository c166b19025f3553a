/-
  Walks: ref12.Parts, ref12.typed, ref12.may.
  Walk: ref12.may.
  Walk: ref12.Readers.
-/
import Derived.Test.YtjbchkgkapccnaaGreatDoorME
import Derived.Test.YtjbchkgkapccnaaGreatDoorMJ
import Derived.Test.YtjbchkgkapccnaaGreatDoorMQ
import Derived.Test.YtjbchkgkapccnaaGreatDoorMA

namespace Go.Proofs.YtjbchkgkapccnaaGreatDoor
open Go.RowKit
set_option linter.unusedVariables false
set_option linter.unusedSimpArgs false

mutual
/-- How many expressions there are, in all. -/
def Ex.tot : Ex → Nat
  | .mk _ _ l => Exs.tot l + 1
def Exs.tot : List Ex → Nat
  | [] => 0
  | x :: l => x.tot + Exs.tot l
end
theorem Ex.tot_eq (x : Ex) : x.tot = Exs.tot x.args + 1 := by obtain ⟨o, n, l⟩ := x; rfl
mutual
theorem Ex.count_tot : ∀ (x : Ex) (left : Nat), x.count left = left - x.tot
  | .mk o n l, left => by
    simp only [Ex.count, Ex.tot]
    by_cases h : 0 < left
    · rw [if_pos h, Exs.count_tot l (left - 1)]; omega
    · rw [if_neg h]; omega
theorem Exs.count_tot : ∀ (l : List Ex) (left : Nat), Exs.count l left = left - Exs.tot l
  | [], left => by simp [Exs.count, Exs.tot]
  | x :: l, left => by simp only [Exs.count, Exs.tot]; rw [Ex.count_tot x left, Exs.count_tot l _]; omega
end
def partsSum : List Nd → Nat
  | [] => 0
  | d :: l => min d.x.tot 1001 + partsSum l
def totSum : List Nd → Nat
  | [] => 0
  | d :: l => d.x.tot + totSum l
theorem countGo_tot : ∀ (l : List Nd) (left : Nat), countGo l left = left - totSum l
  | [], left => by simp [countGo, totSum]
  | d :: l, left => by simp only [countGo, totSum]; rw [Ex.count_tot, countGo_tot l _]; omega
theorem partsSum_tot : ∀ l : List Nd, (1000 < partsSum l ↔ 1000 < totSum l) ∧ (partsSum l ≤ 1000 → partsSum l = totSum l)
  | [] => by simp [partsSum, totSum]
  | d :: l => by
    have ih := partsSum_tot l
    simp only [partsSum, totSum]
    omega
theorem parts_iff (j : Jb) : 1000 < j.parts ↔ 1000 < partsSum j.nodes := by
  unfold Jb.parts
  rw [countGo_tot, (partsSum_tot j.nodes).1]
  omega
theorem partsSum_take (l : List Nd) (k : Nat) (hk : k < l.length) : partsSum (l.take (k + 1)) = partsSum (l.take k) + min (l[k]'hk).x.tot 1001 := by
  have e : ∀ a b : List Nd, partsSum (a ++ b) = partsSum a + partsSum b := by
    intro a b
    induction a with
    | nil => simp [partsSum]
    | cons d a ih => simp only [List.cons_append, partsSum, ih]; omega
  rw [List.take_succ_eq_append_getElem hk, e]
  simp [partsSum]
theorem partsSum_le : ∀ l : List Nd, partsSum l ≤ 1001 * l.length
  | [] => by simp [partsSum]
  | d :: l => by have := partsSum_le l; simp only [partsSum, List.length_cons]; omega

def PartsC (h : Nat) : Prop := ∀ (x : Ex) (v : Value) (B : Nat) (w : World) (most : Nat), x.ht ≤ h → ExAt w B v x → B ≤ w.heap.size → 1 ≤ most → most ≤ 2000 →
  Calls Tryz.prog 56 #[v, .int .i64 (most : Int)] w fun e w' => e = .returned (.int .i64 ((min x.tot most : Nat) : Int)) ∧ Below w.heap.size w w'

set_option maxHeartbeats 1000000 in
theorem parts_step (h : Nat) (IH : Hid (∀ x : Ex, x.ht < h → ∀ (v : Value) (B : Nat) (w : World) (most : Nat), ExAt w B v x → B ≤ w.heap.size → 1 ≤ most → most ≤ 2000 →
      Calls Tryz.prog 56 #[v, .int .i64 (most : Int)] w fun e w' => e = .returned (.int .i64 ((min x.tot most : Nat) : Int)) ∧ Below w.heap.size w w')) : PartsC h := by
  intro x v B w most hh hv hB hm1 hm2
  have HLT : Hid (∀ a ∈ x.args, a.ht < h) := fun a ha => by have := Ex.ht_args x a ha; omega
  have HE := Lib.hid (Ex.tot_eq x)
  obtain ⟨sv, rfl, hs⟩ := hv
  obtain ⟨a, cap, rfl, hcap, hmx⟩ := hs.slice
  have HS := Lib.hid hs
  have hlm : x.args.length ≤ 9223372036854775807 := by unfold maxLen at hmx; omega
  generalize x.tot = T at *
  generalize x.op = o at *
  generalize x.n = n at *
  generalize x.args = l at *
  clear hs hh
  have hN0 := Blk.new w #[.int .u8 o, .int .i64 n, .slice a l.length cap] 47
  have hW := (Below.refl w.heap.size w).alloc (Nat.le_refl _) (.cells #[.int .u8 o, .int .i64 n, .slice a l.length cap] 47)
  go_enter Tryz.func56, Tryz.ntmps56
  go_wp2_with fail
  generalize World.alloc w _ = W at *
  go_loopw [5, 6] (fun s q wr => ∃ j m : Nat, q = .int .i64 (j : Int) ∧ s = .int .i64 (m : Int) ∧ j ≤ l.length ∧ 1 ≤ m ∧ m ≤ most ∧ Below w.heap.size w wr ∧ Blk wr w.heap.size 47 #[.int .u8 o, .int .i64 n, .slice a l.length cap] ∧ min (m + Exs.tot (l.drop j)) most = min T most) (fun _ q _ => l.length - (intOf q).toNat)
  case atStart => exact ⟨0, 1, rfl, rfl, Nat.zero_le _, Nat.le_refl _, hm1, hW, hN0, by rw [HE.out, List.drop_zero]; omega⟩
  case round =>
    obtain ⟨j, m, rfl, rfl, hj, h1m, hmm, hBr, hN, hr⟩ := hrel
    have c2 := hN.cell 2
    by_cases hlt : j < l.length
    · have hd1 : decide ((j : Int) < (l.length : Int)) = true := decide_eq_true (by omega)
      by_cases hlm2 : m < most
      · have hd2 : decide ((m : Int) < (most : Int)) = true := decide_eq_true (by omega)
        obtain ⟨b, off, cp, sv, e1, hb, c0, c1, c3, hsub⟩ := ((HS.out.mono hB).keep hBr).at_ j hlt
        simp only [Value.slice.injEq, true_and] at e1
        obtain ⟨rfl, rfl⟩ := e1
        obtain ⟨a2, cap2, rfl, _, _⟩ := hsub.slice
        rw [List.drop_eq_getElem_cons hlt] at hr
        simp only [Exs.tot] at hr
        have hht := HLT.out _ (List.getElem_mem hlt)
        have HX : Hid (ExAt wr w.heap.size (.agg #[.int .u8 (l[j]'hlt).op, .int .i64 (l[j]'hlt).n, .slice a2 (l[j]'hlt).args.length cap2]) (l[j]'hlt)) := ⟨_, rfl, hsub⟩
        generalize l[j] = y at *
        have HR := Lib.hid hr
        have hms : ((most - m : Nat) : Int) = (most : Int) - (m : Int) := by omega
        have HC := Lib.hid (IH.out y hht _ w.heap.size wr (most - m) HX.out hBr.size (by omega) (by omega))
        rw [hms] at HC
        rename_i hx1 hx2
        clear hr hx1 hx2 hsub hms
        go_wp2_with (go_at_call 56; refine HC.out.mono ?_; rintro e w3 ⟨rfl, hb3⟩)
        go_roundw
        case rel =>
          refine ⟨j + 1, m + min y.tot (most - m), by go_num, by go_num, by omega, by omega, by omega, hBr.trans (hb3.mono hBr.size), hN.below hb3 hN.lt, ?_⟩
          rw [← HR.out]; omega
        case measure => simp [intOf]; omega
      · have hd2 : decide ((m : Int) < (most : Int)) = false := decide_eq_false (by omega)
        go_wp2_with fail
        go_ret
        exact ⟨ret_int (by omega), hBr⟩
    · have hd1 : decide ((j : Int) < (l.length : Int)) = false := decide_eq_false (by omega)
      rw [List.drop_of_length_le (by omega)] at hr
      simp only [Exs.tot, Nat.add_zero] at hr
      go_wp2_with fail
      go_ret
      exact ⟨ret_int (by omega), hBr⟩
theorem parts_all (h : Nat) : PartsC h := by
  induction h using Nat.strongRecOn with
  | ind h ih => exact parts_step h (fun x hx v B w most hv hB h1 h2 => ih x.ht hx x v B w most (Nat.le_refl _) hv hB h1 h2)
theorem rParts_c (x : Ex) (v : Value) (B : Nat) (w : World) (hv : ExAt w B v x) (hB : B ≤ w.heap.size) :
    Calls Tryz.prog 56 #[v, .int .i64 1001] w fun e w' => e = .returned (.int .i64 ((min x.tot 1001 : Nat) : Int)) ∧ Below w.heap.size w w' :=
  parts_all x.ht x v B w 1001 (Nat.le_refl _) hv hB (by omega) (by omega)

set_option maxHeartbeats 1000000 in
theorem rtyped_c (x : Ex) (hok : x.ok) (acc : Bool) (ty : Int) (v : Value) (B : Nat) (w : World) (hv : ExAt w B v x) (hB : B ≤ w.heap.size) :
    Calls Tryz.prog 99 #[v, .bool acc, .int .u8 ty] w fun e w' => e = .returned (.bool (x.isB acc ty)) ∧ Below w.heap.size w w' := by
  have HV := Lib.hid hv
  have HI : Hid (x.isB acc ty = decide ((x.typ acc).2 = 0 ∧ (x.typ acc).1 = ty)) := rfl
  obtain ⟨sv, rfl, hs⟩ := hv
  obtain ⟨a, cap, rfl, _, _⟩ := hs.slice
  have HC : Hid (∀ W, Below w.heap.size w W → Calls Tryz.prog 138 #[.agg #[.int .u8 x.op, .int .i64 x.n, .slice a x.args.length cap], .bool acc] W fun e w' => e = .returned (.tuple #[.int .u8 (x.typ acc).1, .int .i64 (x.typ acc).2]) ∧ Below W.heap.size W w') := fun W h => rOf_c x hok acc _ B W (HV.out.keep (h.mono hB)) (Nat.le_trans hB h.size)
  generalize x.op = o at *
  generalize x.n = n at *
  generalize x.args.length = ll at *
  generalize x.isB acc ty = r at *
  generalize x.typ acc = p at *
  obtain ⟨p1, p2⟩ := p
  dsimp only at HI HC
  clear hs HV
  have hW := (Below.refl w.heap.size w).alloc (Nat.le_refl _) (.cells #[.int .u8 o, .int .i64 n, .slice a ll cap] 47)
  by_cases h2 : p2 = 0
  · have hb2 : (p2 == 0) = true := by simpa using h2
    have HR : Hid (r = (p1 == ty)) := by
      show _ = _
      rw [HI.out]
      simp [h2]
      rfl
    clear HI h2
    go_enter Tryz.func99, Tryz.ntmps99
    go_wp2_with (go_at_call 138; refine (HC.out _ hW).mono ?_; rintro e w1 ⟨rfl, hb1⟩)
    go_ret
    exact ⟨ret_bool HR.out.symm, hW.trans (hb1.mono hW.size)⟩
  · have hb2 : (p2 == 0) = false := by simpa using h2
    have HR : Hid (r = false) := by
      show _ = _
      rw [HI.out]
      simp [h2]
    clear HI h2
    go_enter Tryz.func99, Tryz.ntmps99
    go_wp2_with (go_at_call 138; refine (HC.out _ hW).mono ?_; rintro e w1 ⟨rfl, hb1⟩)
    go_ret
    exact ⟨ret_bool HR.out.symm, hW.trans (hb1.mono hW.size)⟩

end Go.Proofs.YtjbchkgkapccnaaGreatDoor

namespace Go.Proofs.YtjbchkgkapccnaaGreatDoor
open Go.RowKit
set_option linter.unusedVariables false
set_option linter.unusedSimpArgs false

def kindOk (kd : Int) (len : Nat) (none : Bool) (is : Bool → Int → Bool) (n : Int) : Bool :=
  if kd = 1 then decide (len = 0) && (none && decide (n = 0))
  else if kd = 2 ∨ kd = 4 ∨ kd = 5 then decide (len = 1) && (is false 1 && decide (n = 0))
  else if kd = 3 then decide (len = 1) && (is false 2 && decide (n = 0))
  else if kd = 6 then decide (len = 1) && (is true 1 && decide (n = 0))
  else if kd = 7 then decide (len = 1) && (none && (decide (1 ≤ n) && decide (n ≤ 16)))
  else if kd = 8 then (decide (len = 2) || decide (len = 3)) && (none && decide (n = 0))
  else if kd = 9 then decide (len = 1) && (none && decide (n = 0))
  else false
theorem nodeB_ref (d : Nd) (at_ : Int) : nodeB d at_ = (nameB d.uid && (!d.ins.any (outB at_) && (!twiceB (fun x y => x == y) d.ins && kindOk d.kind d.ins.length (d.x.sameB (.mk 0 0 [])) d.x.isB d.n))) := by
  obtain ⟨u, k, ins, x, n⟩ := d
  unfold nodeB kindOk
  dsimp only
  generalize nameB u = b1
  generalize ins.any (outB at_) = b2
  generalize twiceB (fun x y => x == y) ins = b3
  generalize x.sameB (.mk 0 0 []) = b4
  generalize ins.length = len
  cases b1
  · simp
  have hk : k < 1 ∨ k = 1 ∨ k = 2 ∨ k = 3 ∨ k = 4 ∨ k = 5 ∨ k = 6 ∨ k = 7 ∨ k = 8 ∨ k = 9 ∨ 9 < k := by omega
  rcases hk with h | rfl | rfl | rfl | rfl | rfl | rfl | rfl | rfl | rfl | h
  · rw [decide_eq_true h, if_neg (by omega), if_neg (by omega), if_neg (by omega), if_neg (by omega), if_neg (by omega), if_neg (by omega), if_neg (by omega)]
    simp
  all_goals try
    cases b2 <;> cases b3 <;> simp [rLeast, rMost, rTy, rN, rM, rAcc]
    all_goals
      rw [Bool.eq_iff_iff]
      simp only [Bool.and_eq_true, Bool.or_eq_true, decide_eq_true_eq, Bool.not_eq_true', decide_eq_false_iff_not]
      constructor
      · intro h
        simp_all
        try omega
      · intro h
        simp_all
        try omega
  · rw [decide_eq_true h, if_neg (by omega), if_neg (by omega), if_neg (by omega), if_neg (by omega), if_neg (by omega), if_neg (by omega), if_neg (by omega)]
    simp

theorem twiceGo_snoc {α : Type} (p : α → α → Bool) (x : α) : ∀ (l s : List α), twiceGo p s (l ++ [x]) = (twiceGo p s l || (s ++ l).any (p x))
  | [], s => by simp [twiceGo]
  | y :: l, s => by
    simp only [List.cons_append, twiceGo]
    rw [twiceGo_snoc p x l (s ++ [y]), Bool.or_assoc, List.append_assoc, List.singleton_append]
theorem twiceB_snoc {α : Type} (p : α → α → Bool) (l : List α) (x : α) : twiceB p (l ++ [x]) = (twiceB p l || l.any (p x)) := by
  unfold twiceB
  rw [twiceGo_snoc, List.nil_append]
theorem twiceGo_pre {α : Type} (p : α → α → Bool) : ∀ (l s r : List α), twiceGo p s l = true → twiceGo p s (l ++ r) = true
  | y :: l, s, r, h => by
    simp only [List.cons_append, twiceGo, Bool.or_eq_true] at h ⊢
    exact h.imp id (twiceGo_pre p l _ r)
theorem twiceB_pre {α : Type} (p : α → α → Bool) (l : List α) (k : Nat) (h : twiceB p (l.take k) = true) : twiceB p l = true := by
  have := twiceGo_pre p (l.take k) [] (l.drop k) h
  rw [List.take_append_drop] at this
  exact this

set_option maxRecDepth 100000 in
set_option maxHeartbeats 8000000 in
theorem rmay_c (d : Nd) (hok : d.ok) (hus : d.uid.size ≤ 1000000) (at_ : Int) (v : Value) (B : Nat) (w : World) (hv : NdAt w B v d) (hB : B ≤ w.heap.size) :
    Calls Tryz.prog 57 #[v, .int .i64 at_] w fun e w' => e = .returned (.bool (nodeB d at_)) ∧ Below w.heap.size w w' := by
  have HNB := Lib.hid (nodeB_ref d at_)
  obtain ⟨iv, sv, rfl, ⟨hin, hs⟩, hu⟩ := hv
  obtain ⟨_, ai, capi, rfl, _, hcm, _⟩ := id hin
  obtain ⟨a2, cap2, rfl, _, _⟩ := hs.slice
  have HI := Lib.hid hin
  have HX : Hid (ExAt w B (.agg #[.int .u8 d.x.op, .int .i64 d.x.n, .slice a2 d.x.args.length cap2]) d.x) := ⟨_, rfl, hs⟩
  have HSM : Hid (∀ W, Below w.heap.size w W → Calls Tryz.prog 98 #[.agg #[.int .u8 d.x.op, .int .i64 d.x.n, .slice a2 d.x.args.length cap2], .agg #[.int .u8 0, .int .i64 0, .slice none 0 0]] W fun e w' => e = .returned (.bool (d.x.sameB (.mk 0 0 []))) ∧ Below W.heap.size W w') :=
    fun W h => rSame_c d.x (.mk 0 0 []) _ _ B W (HX.out.keep (h.mono hB)) ⟨_, rfl, .nil none 0 (Nat.zero_le _)⟩ (Nat.le_trans hB h.size)
  have HTY : Hid (∀ W acc ty, Below w.heap.size w W → Calls Tryz.prog 99 #[.agg #[.int .u8 d.x.op, .int .i64 d.x.n, .slice a2 d.x.args.length cap2], .bool acc, .int .u8 ty] W fun e w' => e = .returned (.bool (d.x.isB acc ty)) ∧ Below W.heap.size W w') :=
    fun W acc ty h => rtyped_c d.x hok.2.2.2.1 acc ty _ B W (HX.out.keep (h.mono hB)) (Nat.le_trans hB h.size)
  have hlm : d.ins.length ≤ 9223372036854775807 := by unfold maxLen at hcm; omega
  have hkr : 0 ≤ d.kind ∧ d.kind ≤ 255 := ⟨hok.1, hok.2.1⟩
  have HIR := Lib.hid hok.2.2.1
  clear hok hs hin hcm
  rename_i hx1
  clear hx1
  generalize nodeB d at_ = res at *
  generalize d.x.sameB (.mk 0 0 []) = nn at *
  generalize d.x.isB = is at *
  generalize d.x.op = xo at *
  generalize d.x.n = xn at *
  generalize d.x.args.length = xl at *
  generalize d.uid = u at *
  generalize d.kind = kd at *
  generalize d.n = n at *
  generalize d.ins = l at *
  clear HX
  have hN0 := Blk.new w #[.string u, .int .u8 kd, .slice ai l.length capi, .int .u8 xo, .int .i64 xn, .slice a2 xl cap2, .int .i64 n] 49
  have hW := (Below.refl w.heap.size w).alloc (Nat.le_refl _) (.cells #[.string u, .int .u8 kd, .slice ai l.length capi, .int .u8 xo, .int .i64 xn, .slice a2 xl cap2, .int .i64 n] 49)
  cases hn : nameB u
  · have HR : Hid (res = false) := by show _ = _; rw [HNB.out, hn]; rfl
    have HN := Lib.hid hn
    clear hn HNB
    go_enter Tryz.func57, Tryz.ntmps57
    go_upto_region 1 with fail
    generalize World.alloc w _ = W at *
    have c0 := hN0.cell 0
    go_wp2_with (go_at_call 97; refine (rName_c u _ hus).mono ?_; rintro e w1 ⟨rfl, hb1⟩; rw [HN.out])
    go_ret
    exact ⟨ret_bool HR.out.symm, hW.trans (hb1.mono hW.size)⟩
  · have HNB2 : Hid (res = (!l.any (outB at_) && (!twiceB (fun x y => x == y) l && kindOk kd l.length nn is n))) := by show _ = _; rw [HNB.out, hn]; rfl
    have HN := Lib.hid hn
    clear hn HNB
    go_enter Tryz.func57, Tryz.ntmps57
    go_upto_region 1 with fail
    generalize World.alloc w _ = W at *
    have c0 := hN0.cell 0
    have c2 := hN0.cell 2
    go_wp2_with (go_at_call 97; refine (rName_c u _ hus).mono ?_; rintro e w1 ⟨rfl, hb1⟩; rw [HN.out])
    have hN1 := hN0.below hb1 hN0.lt
    have hB1 := hW.trans (hb1.mono hW.size)
    clear c0 c2 hb1 hN0 hW
    go_loopw [5] (fun q wr => ∃ i : Nat, q = .int .i64 (i : Int) ∧ i ≤ l.length ∧ Below w.heap.size w wr ∧ Blk wr w.heap.size 49 #[.string u, .int .u8 kd, .slice ai l.length capi, .int .u8 xo, .int .i64 xn, .slice a2 xl cap2, .int .i64 n] ∧ (l.take i).any (outB at_) = false ∧ twiceB (fun x y => x == y) (l.take i) = false) (fun q _ => l.length - (intOf q).toNat)
    case atStart => exact ⟨0, rfl, Nat.zero_le _, hB1, hN1, rfl, rfl⟩
    case round =>
      obtain ⟨i, rfl, hi, hBr, hN, ho, ht⟩ := hrel
      have c2 := hN.cell 2
      clear hN1 hB1
      by_cases hlt : i < l.length
      · have hd1 : decide ((i : Int) < (l.length : Int)) = true := decide_eq_true (by omega)
        obtain ⟨b, off, cp, e1, hb, g1, p0⟩ := ((HI.out.mono hB).below hBr).int i hlt
        simp only [Value.slice.injEq, true_and] at e1
        obtain ⟨rfl, rfl⟩ := e1
        have HOT : Hid (outB at_ l[i] = true → res = false) := fun h => by
          have : l.any (outB at_) = true := List.any_eq_true.2 ⟨_, List.getElem_mem hlt, h⟩
          rw [HNB2.out, this]; rfl
        have HON : Hid (outB at_ l[i] = false → (l.take (i + 1)).any (outB at_) = false) := fun h => by
          rw [List.take_succ_eq_append_getElem hlt, List.any_append, ho]
          simp [h]
        have HTN : Hid (twiceB (fun x y => x == y) (l.take (i + 1)) = (l.take i).any (fun y => l[i] == y)) := by
          show _ = _
          rw [List.take_succ_eq_append_getElem hlt, twiceB_snoc, ht, Bool.false_or]
        have HTR : Hid (twiceB (fun x y => x == y) (l.take (i + 1)) = true → res = false) := fun h => by
          rw [HNB2.out, twiceB_pre _ _ _ h]
          cases l.any (outB at_) <;> rfl
        have hzr := HIR.out _ (List.getElem_mem hlt)
        have HZI : Hid (∀ k (hk : k < l.length), l[k]? = some (l[k]'hk)) := fun k hk => List.getElem?_eq_getElem hk
        obtain ⟨z, hzz⟩ : ∃ z, l[i] = z := ⟨_, rfl⟩
        have HZZ := Lib.hid hzz
        rw [hzz] at HOT HON HTN hzr p0
        clear hzz ho ht
        have HO : Hid (outB at_ z = (decide (z < 0) || decide (at_ ≤ z))) := rfl
        by_cases h0 : z < 0
        · have h0d : decide (z < 0) = true := decide_eq_true h0
          have HR := Lib.hid (HOT.out (by rw [HO.out, h0d]; rfl))
          go_wp2_with fail
          go_ret
          exact ⟨ret_bool HR.out.symm, hBr⟩
        · have h0d : decide (z < 0) = false := decide_eq_false h0
          by_cases ha : at_ ≤ z
          · have had : decide (at_ ≤ z) = true := decide_eq_true ha
            have had2 : decide (z < at_) = false := decide_eq_false (by omega)
            have HR := Lib.hid (HOT.out (by rw [HO.out, had]; simp))
            go_wp2_with fail
            go_ret
            exact ⟨ret_bool HR.out.symm, hBr⟩
          · have had : decide (at_ ≤ z) = false := decide_eq_false ha
            have had2 : decide (z < at_) = true := decide_eq_true (by omega)
            have HON2 := Lib.hid (HON.out (by rw [HO.out, h0d, had]; rfl))
            go_wp2_with fail
            go_loopw [6] (fun q wx => ∃ j m : Nat, q = .int .i64 (j : Int) ∧ j ≤ i ∧ wx = wr.drewN m ∧ (l.take j).any (fun y => z == y) = false) (fun q _ => i - (intOf q).toNat)
            case atStart => exact ⟨0, 0, rfl, Nat.zero_le _, rfl, rfl⟩
            case round =>
              obtain ⟨j, m, rfl, hj, rfl, hje⟩ := hrel
              by_cases hji : j < i
              · have hjd : decide ((j : Int) < (i : Int)) = true := decide_eq_true (by omega)
                have hjl : j < l.length := by omega
                obtain ⟨b', off', cp', e1, hb', g1', p0'⟩ := ((HI.out.mono hB).below hBr).int j hjl
                simp only [Value.slice.injEq, true_and, Option.some.injEq, Addr.mk.injEq, and_true] at e1
                obtain ⟨⟨rfl, rfl⟩, rfl⟩ := e1
                have HJT : Hid (l.take (j + 1) = l.take j ++ [l[j]]) := List.take_succ_eq_append_getElem hjl
                have HJI : Hid (z = l[j] → (l.take i).any (fun y => z == y) = true) := fun h => by
                  refine List.any_eq_true.2 ⟨l[j], ?_, by simp [h]⟩
                  exact List.mem_take_iff_getElem.2 ⟨j, by omega, rfl⟩
                obtain ⟨y, hyy⟩ : ∃ y, l[j] = y := ⟨_, rfl⟩
                rw [hyy] at HJT HJI p0'
                clear hyy
                by_cases hzy : z = y
                · have hb2 : (z == y) = true := by simpa using hzy
                  have HR := Lib.hid (HTR.out (by rw [HTN.out, HJI.out hzy]))
                  clear hzy
                  go_wp2_with fail
                  go_quiet (fail)
                  go_wp2_with fail
                  go_ret
                  exact ⟨ret_bool HR.out.symm, below_drewN (below_drewN hBr _) _⟩
                · have hb2 : (z == y) = false := by simpa using hzy
                  clear hzy
                  go_wp2_with fail
                  go_quiet (fail)
                  go_wp2_with fail
                  go_roundw
                  case rel => exact ⟨j + 1, m + nq, by go_num, by omega, rfl, by rw [HJT.out, List.any_append, hje]; simp [hb2]⟩
                  case measure => simp [intOf]; omega
              · have hjd : decide ((j : Int) < (i : Int)) = false := decide_eq_false (by omega)
                obtain rfl : j = i := by omega
                go_wp2_with fail
                go_roundw
                case rel => exact ⟨j + 1, by go_num, by omega, below_drewN hBr _, hN, HON2.out, by rw [HTN.out]; exact hje⟩
                case measure => simp [intOf]; omega
      · have hd1 : decide ((i : Int) < (l.length : Int)) = false := decide_eq_false (by omega)
        obtain rfl : i = l.length := by omega
        rw [List.take_length] at ho ht
        have HR : Hid (res = kindOk kd l.length nn is n) := by show _ = _; rw [HNB2.out, ho, ht]; rfl
        clear HNB2 ho ht HIR
        have c1 := hN.cell 1
        have c3 := hN.cell 3
        have c4 := hN.cell 4
        have c5 := hN.cell 5
        have c6 := hN.cell 6
        generalize hll : l.length = ln at *
        clear hll
        go_upto_region 14 with (go_at_call 98; refine (HSM.out _ hBr).mono ?_; rintro e w3 ⟨rfl, hb3⟩)
        have hB3 := hBr.trans (hb3.mono hBr.size)
        have hN3 := hN.below hb3 hN.lt
        clear c1 c2 c3 c4 c5 c6 hBr hN hb3
        have c1 := hN3.cell 1
        have c2 := hN3.cell 2
        have c3 := hN3.cell 3
        have c4 := hN3.cell 4
        have c5 := hN3.cell 5
        have c6 := hN3.cell 6
        have hk : kd = 1 ∨ kd = 2 ∨ kd = 3 ∨ kd = 4 ∨ kd = 5 ∨ kd = 6 ∨ kd = 7 ∨ kd = 8 ∨ kd = 9 ∨ (kd ≠ 1 ∧ kd ≠ 2 ∧ kd ≠ 3 ∧ kd ≠ 4 ∧ kd ≠ 5 ∧ kd ≠ 6 ∧ kd ≠ 7 ∧ kd ≠ 8 ∧ kd ≠ 9) := by omega
        rcases hk with rfl | rfl | rfl | rfl | rfl | rfl | rfl | rfl | rfl | ⟨k1, k2, k3, k4, k5, k6, k7, k8, k9⟩
        · skip
          by_cases h2 : ln = 0
          · subst h2
            cases nn
            · go_wp2_with fail
              go_ret
              exact ⟨ret_bool (by rw [HR.out]; simp [kindOk]; try rfl), hB3⟩
            · go_wp2_with fail
              go_ret
              exact ⟨ret_bool (by rw [HR.out]; simp [kindOk]; try rfl), hB3⟩
          · have q1 : ((ln : Int) == 0) = false := by rw [beq_eq_false_iff_ne]; omega
            go_wp2_with fail
            go_ret
            exact ⟨ret_bool (by rw [HR.out]; simp [kindOk, h2]), hB3⟩
        · skip
          by_cases h2 : ln = 1
          · subst h2
            cases hi2 : is false 1
            · have HI2 := Lib.hid hi2
              clear hi2
              go_wp2_with (go_at_call 99; refine (HTY.out _ false 1 hB3).mono ?_; rintro e w5 ⟨rfl, hb5⟩; rw [HI2.out]; have d6 := (hN3.below hb5 hN3.lt).cell 6)
              go_ret
              exact ⟨ret_bool (by rw [HR.out]; simp [kindOk, HI2.out]; try rfl), hB3.trans (hb5.mono hB3.size)⟩
            · have HI2 := Lib.hid hi2
              clear hi2
              go_wp2_with (go_at_call 99; refine (HTY.out _ false 1 hB3).mono ?_; rintro e w5 ⟨rfl, hb5⟩; rw [HI2.out]; have d6 := (hN3.below hb5 hN3.lt).cell 6)
              go_ret
              exact ⟨ret_bool (by rw [HR.out]; simp [kindOk, HI2.out]; try rfl), hB3.trans (hb5.mono hB3.size)⟩
          · have q1 : ((ln : Int) == 1) = false := by rw [beq_eq_false_iff_ne]; omega
            go_wp2_with fail
            go_ret
            exact ⟨ret_bool (by rw [HR.out]; simp [kindOk, h2]), hB3⟩
        · skip
          by_cases h2 : ln = 1
          · subst h2
            cases hi2 : is false 2
            · have HI2 := Lib.hid hi2
              clear hi2
              go_wp2_with (go_at_call 99; refine (HTY.out _ false 2 hB3).mono ?_; rintro e w5 ⟨rfl, hb5⟩; rw [HI2.out]; have d6 := (hN3.below hb5 hN3.lt).cell 6)
              go_ret
              exact ⟨ret_bool (by rw [HR.out]; simp [kindOk, HI2.out]; try rfl), hB3.trans (hb5.mono hB3.size)⟩
            · have HI2 := Lib.hid hi2
              clear hi2
              go_wp2_with (go_at_call 99; refine (HTY.out _ false 2 hB3).mono ?_; rintro e w5 ⟨rfl, hb5⟩; rw [HI2.out]; have d6 := (hN3.below hb5 hN3.lt).cell 6)
              go_ret
              exact ⟨ret_bool (by rw [HR.out]; simp [kindOk, HI2.out]; try rfl), hB3.trans (hb5.mono hB3.size)⟩
          · have q1 : ((ln : Int) == 1) = false := by rw [beq_eq_false_iff_ne]; omega
            go_wp2_with fail
            go_ret
            exact ⟨ret_bool (by rw [HR.out]; simp [kindOk, h2]), hB3⟩
        · skip
          by_cases h2 : ln = 1
          · subst h2
            cases hi2 : is false 1
            · have HI2 := Lib.hid hi2
              clear hi2
              go_wp2_with (go_at_call 99; refine (HTY.out _ false 1 hB3).mono ?_; rintro e w5 ⟨rfl, hb5⟩; rw [HI2.out]; have d6 := (hN3.below hb5 hN3.lt).cell 6)
              go_ret
              exact ⟨ret_bool (by rw [HR.out]; simp [kindOk, HI2.out]; try rfl), hB3.trans (hb5.mono hB3.size)⟩
            · have HI2 := Lib.hid hi2
              clear hi2
              go_wp2_with (go_at_call 99; refine (HTY.out _ false 1 hB3).mono ?_; rintro e w5 ⟨rfl, hb5⟩; rw [HI2.out]; have d6 := (hN3.below hb5 hN3.lt).cell 6)
              go_ret
              exact ⟨ret_bool (by rw [HR.out]; simp [kindOk, HI2.out]; try rfl), hB3.trans (hb5.mono hB3.size)⟩
          · have q1 : ((ln : Int) == 1) = false := by rw [beq_eq_false_iff_ne]; omega
            go_wp2_with fail
            go_ret
            exact ⟨ret_bool (by rw [HR.out]; simp [kindOk, h2]), hB3⟩
        · skip
          by_cases h2 : ln = 1
          · subst h2
            cases hi2 : is false 1
            · have HI2 := Lib.hid hi2
              clear hi2
              go_wp2_with (go_at_call 99; refine (HTY.out _ false 1 hB3).mono ?_; rintro e w5 ⟨rfl, hb5⟩; rw [HI2.out]; have d6 := (hN3.below hb5 hN3.lt).cell 6)
              go_ret
              exact ⟨ret_bool (by rw [HR.out]; simp [kindOk, HI2.out]; try rfl), hB3.trans (hb5.mono hB3.size)⟩
            · have HI2 := Lib.hid hi2
              clear hi2
              go_wp2_with (go_at_call 99; refine (HTY.out _ false 1 hB3).mono ?_; rintro e w5 ⟨rfl, hb5⟩; rw [HI2.out]; have d6 := (hN3.below hb5 hN3.lt).cell 6)
              go_ret
              exact ⟨ret_bool (by rw [HR.out]; simp [kindOk, HI2.out]; try rfl), hB3.trans (hb5.mono hB3.size)⟩
          · have q1 : ((ln : Int) == 1) = false := by rw [beq_eq_false_iff_ne]; omega
            go_wp2_with fail
            go_ret
            exact ⟨ret_bool (by rw [HR.out]; simp [kindOk, h2]), hB3⟩
        · skip
          by_cases h2 : ln = 1
          · subst h2
            cases hi2 : is true 1
            · have HI2 := Lib.hid hi2
              clear hi2
              go_wp2_with (go_at_call 99; refine (HTY.out _ true 1 hB3).mono ?_; rintro e w5 ⟨rfl, hb5⟩; rw [HI2.out]; have d6 := (hN3.below hb5 hN3.lt).cell 6)
              go_ret
              exact ⟨ret_bool (by rw [HR.out]; simp [kindOk, HI2.out]; try rfl), hB3.trans (hb5.mono hB3.size)⟩
            · have HI2 := Lib.hid hi2
              clear hi2
              go_wp2_with (go_at_call 99; refine (HTY.out _ true 1 hB3).mono ?_; rintro e w5 ⟨rfl, hb5⟩; rw [HI2.out]; have d6 := (hN3.below hb5 hN3.lt).cell 6)
              go_ret
              exact ⟨ret_bool (by rw [HR.out]; simp [kindOk, HI2.out]; try rfl), hB3.trans (hb5.mono hB3.size)⟩
          · have q1 : ((ln : Int) == 1) = false := by rw [beq_eq_false_iff_ne]; omega
            go_wp2_with fail
            go_ret
            exact ⟨ret_bool (by rw [HR.out]; simp [kindOk, h2]), hB3⟩
        · skip
          by_cases h2 : ln = 1
          · subst h2
            cases nn
            · go_wp2_with fail
              go_ret
              exact ⟨ret_bool (by rw [HR.out]; simp [kindOk]), hB3⟩
            · by_cases hn1 : 1 ≤ n
              · have hnd : decide (1 ≤ n) = true := decide_eq_true hn1
                go_wp2_with fail
                go_ret
                exact ⟨ret_bool (by rw [HR.out]; simp [kindOk, hn1]), hB3⟩
              · have hnd : decide (1 ≤ n) = false := decide_eq_false hn1
                go_wp2_with fail
                go_ret
                exact ⟨ret_bool (by rw [HR.out]; simp [kindOk, hn1]; try omega), hB3⟩
          · have q1 : ((ln : Int) == 1) = false := by rw [beq_eq_false_iff_ne]; omega
            go_wp2_with fail
            go_ret
            exact ⟨ret_bool (by rw [HR.out]; simp [kindOk, h2]), hB3⟩
        · skip
          by_cases h2 : ln = 2 ∨ ln = 3
          · have hr2 : (((ln : Int) == 2) = true) ∨ (((ln : Int) == 2) = false ∧ ((ln : Int) == 3) = true) := by
              rcases h2 with h | h
              · left; simp; omega
              · right; constructor
                · rw [beq_eq_false_iff_ne]; omega
                · simp; omega
            have hd2 : (decide (ln = 2) || decide (ln = 3)) = true := by simpa using h2
            clear h2
            rcases hr2 with q1 | ⟨q1, q2⟩
            all_goals
              cases nn
              · go_wp2_with fail
                go_ret
                exact ⟨ret_bool (by rw [HR.out]; simp [kindOk]), hB3⟩
              · go_wp2_with fail
                go_ret
                exact ⟨ret_bool (by rw [HR.out]; simp only [kindOk]; simp [hd2]; rfl), hB3⟩
          · have q1 : ((ln : Int) == 2) = false := by rw [beq_eq_false_iff_ne]; omega
            have q2 : ((ln : Int) == 3) = false := by rw [beq_eq_false_iff_ne]; omega
            have hd2 : (decide (ln = 2) || decide (ln = 3)) = false := by simp; omega
            clear h2
            go_wp2_with fail
            go_ret
            exact ⟨ret_bool (by rw [HR.out]; simp only [kindOk]; simp [hd2]), hB3⟩
        · skip
          by_cases h2 : ln = 1
          · subst h2
            cases nn
            · go_wp2_with fail
              go_ret
              exact ⟨ret_bool (by rw [HR.out]; simp [kindOk]; try rfl), hB3⟩
            · go_wp2_with fail
              go_ret
              exact ⟨ret_bool (by rw [HR.out]; simp [kindOk]; try rfl), hB3⟩
          · have q1 : ((ln : Int) == 1) = false := by rw [beq_eq_false_iff_ne]; omega
            go_wp2_with fail
            go_ret
            exact ⟨ret_bool (by rw [HR.out]; simp [kindOk, h2]), hB3⟩
        · have b1 : (kd == 1) = false := by simpa using k1
          have b2 : (kd == 2) = false := by simpa using k2
          have b3 : (kd == 3) = false := by simpa using k3
          have b4 : (kd == 4) = false := by simpa using k4
          have b5 : (kd == 5) = false := by simpa using k5
          have b6 : (kd == 6) = false := by simpa using k6
          have b7 : (kd == 7) = false := by simpa using k7
          have b8 : (kd == 8) = false := by simpa using k8
          have b9 : (kd == 9) = false := by simpa using k9
          go_wp2_with fail
          go_ret
          exact ⟨ret_bool (by rw [HR.out]; simp [kindOk, k1, k2, k3, k4, k5, k6, k7, k8, k9]), hB3⟩
end Go.Proofs.YtjbchkgkapccnaaGreatDoor

namespace Go.Proofs.YtjbchkgkapccnaaGreatDoor
open Go.RowKit
set_option linter.unusedVariables false
set_option linter.unusedSimpArgs false

set_option maxHeartbeats 4000000 in
theorem rReaders_c (jb : Jb) (at_ : Int) (v : Value) (B : Nat) (w : World) (hv : JbAt w B v jb) (hB : B ≤ w.heap.size) (hlen : jb.nodes.length ≤ 1000) :
    Calls Tryz.prog 58 #[v, .int .i64 at_] w fun e w' => ∃ v', e = .returned v' ∧ Sl w' w'.heap.size 1 v' (jb.readers at_).length ((jb.readers at_).map (Value.int .i64)) ∧ Below w.heap.size w w' := by
  obtain ⟨i0, hi, hz0, hz1, hz2⟩ := info_parts info_intJ
  have HE : Hid (jb.readers at_ = readersGo at_ jb.nodes 0) := rfl
  obtain ⟨sv, rfl, hs⟩ := hv
  obtain ⟨a, cap, rfl, hcap, hmx⟩ := hs.slice
  have HS := Lib.hid hs
  generalize jb.nodes = l at *
  generalize jb.par = par at *
  generalize jb.readers at_ = rr at *
  clear hs
  have hW := (Below.refl w.heap.size w).alloc (Nat.le_refl _) (.cells #[.int .i64 par, .slice a l.length cap] 24)
  have hJ := Blk.new w #[.int .i64 par, .slice a l.length cap] 24
  go_enter Tryz.func58, Tryz.ntmps58
  go_wp2_with fail
  generalize World.alloc w _ = W at *
  go_loopw [5, 6] (fun s q wr => ∃ (k : Nat) (xs : List Int), q = .int .i64 (k : Int) ∧ k ≤ l.length ∧ Below w.heap.size w wr ∧ Blk wr w.heap.size 24 #[.int .i64 par, .slice a l.length cap] ∧ wr.ownsRow (w.heap.size + 1) 3 1 s xs.length (xs.map (Value.int .i64)) ∧ xs.length ≤ k ∧ xs ++ readersGo at_ (l.drop k) k = readersGo at_ l 0) (fun _ q _ => l.length - (intOf q).toNat)
  case atStart => exact ⟨0, [], rfl, Nat.zero_le _, hW, hJ, World.ownsRow_nil _ _ _ _, Nat.le_refl _, rfl⟩
  case round =>
    obtain ⟨k, xs, rfl, hk, hBr, hJr, hown, hxk, hr⟩ := hrel
    have g1 := hJr.cell 1
    have hbw : w.heap.size < wr.heap.size := hJr.lt
    by_cases hlt : k < l.length
    · have hd1 : decide ((k : Int) < (l.length : Int)) = true := decide_eq_true (by omega)
      obtain ⟨b, off, cp, e1, hb, hu, iv, sv, c0, c1, c2, c3, c4, c5, c6, hin⟩ := ((HS.out.mono hB).keep hBr).at_ k hlt
      simp only [Value.slice.injEq, true_and] at e1
      obtain ⟨rfl, rfl⟩ := e1
      obtain ⟨_, ai, capi, rfl, _, hcm, _⟩ := id hin.1
      rw [List.drop_eq_getElem_cons hlt] at hr
      simp only [readersGo] at hr
      have hym : (l[k]'hlt).ins.length ≤ 9223372036854775807 := by unfold maxLen at hcm; omega
      generalize l[k] = y at *
      have HSL := Lib.hid hin.1
      have HR := Lib.hid hr
      rename_i hx1 hx2 hx3
      clear hr hin hx1 hx2 hx3 c0 c1 c3 c4 c5 c6 hu
      go_wp2_with fail
      go_loopw [7, 8] (fun s q wx => ∃ (m : Nat) (r : Bool), q = .int .i64 (m : Int) ∧ s = .bool r ∧ m ≤ y.ins.length ∧ wx = wr ∧ (y.ins.take m).any (fun z => at_ == z) = r) (fun _ q _ => y.ins.length - (intOf q).toNat)
      case atStart => exact ⟨0, false, rfl, rfl, Nat.zero_le _, rfl, rfl⟩
      case round =>
        obtain ⟨m, r, rfl, rfl, hm, rfl, hra⟩ := hrel
        by_cases hlm : m < y.ins.length
        · have hd2 : decide ((m : Int) < (y.ins.length : Int)) = true := decide_eq_true (by omega)
          obtain ⟨b', off', cp', e1, hb', g1', p0⟩ := HSL.out.int m hlm
          simp only [Value.slice.injEq, true_and] at e1
          obtain ⟨rfl, rfl⟩ := e1
          have HAN : Hid ((y.ins.take (m + 1)).any (fun z => at_ == z) = (r || (at_ == y.ins[m]))) := by
            show _ = _
            rw [List.take_succ_eq_append_getElem hlm, List.any_append, hra]
            simp
          generalize y.ins[m] = z at *
          have hzz : (z == at_) = (at_ == z) := by rw [Bool.eq_iff_iff, beq_iff_eq, beq_iff_eq]; exact eq_comm
          rw [← hzz] at HAN
          clear hzz hra
          cases r
          · cases hza : (z == at_)
            all_goals
              have HAZ := Lib.hid hza
              go_wp2_with fail
              go_roundw
              case rel => exact ⟨m + 1, _, by go_num, rfl, by omega, trivial, by rw [HAN.out, HAZ.out]; rfl⟩
              case measure => simp [intOf]; omega
          · go_wp2_with fail
            go_roundw
            case rel => exact ⟨m + 1, true, by go_num, rfl, by omega, trivial, by rw [HAN.out]; rfl⟩
            case measure => simp [intOf]; omega
        · have hd2 : decide ((m : Int) < (y.ins.length : Int)) = false := decide_eq_false (by omega)
          rw [List.take_of_length_le (by omega)] at hra
          rw [hra] at HR
          clear hra
          cases r
          · go_wp2_with fail
            go_roundw
            case rel => exact ⟨k + 1, xs, by go_num, by omega, hBr, hJr, hown, by omega, HR.out⟩
            case measure => simp [intOf]; omega
          · have hon := own_keep hown ((Below.refl wr.heap.size wr).alloc (Nat.le_refl _) (.cells #[.int .i64 (k : Int)] 3))
            have hB1 := hBr.alloc (Nat.le_of_lt hbw) (.cells #[.int .i64 (k : Int)] 3)
            have hJ1 := hJr.alloc (.cells #[.int .i64 (k : Int)] 3)
            go_wp2_with (at_builtin; refine wpList_append_own _ rfl _ _ 37 rfl (w.heap.size + 1) 3 i0 (.int .i64 0) 1 8 Tryz.underlying37 hi hz0 hz1 hz2 rfl (by decide) u5 xs.length (xs.map (Value.int .i64)) rfl hon ⟨wr.heap.size, 0, none⟩ 1 1 [.int .i64 (k : Int)] rfl rfl (cell_one_newJ _ _ _) (by simp [Value.oneCell']) (by unfold maxLen; omega) (by omega) (by simp; omega) ?_; intro v1' w3 hown3 hgrow3 _)
            have hgn : ∀ q, u5.ownBlock = some q → w.heap.size + 1 ≤ q := fun q hq => (hown.lt q hq).1
            go_roundw
            case rel => exact ⟨k + 1, xs ++ [(k : Int)], by go_num, by omega, hB1.grown hgrow3 (by simp; omega) (fun q hq => by have := hgn q hq; omega), hJ1.grown hgrow3 (fun e => by have := hgn _ e.symm; omega), by simpa using hown3, by simp; omega, by rw [← HR.out, List.append_assoc]; rfl⟩
            case measure => simp [intOf]; omega
    · have hd1 : decide ((k : Int) < (l.length : Int)) = false := decide_eq_false (by omega)
      rw [List.drop_of_length_le (by omega)] at hr
      simp only [readersGo, List.append_nil] at hr
      go_wp2_with fail
      go_ret
      refine ⟨_, rfl, ?_, hBr⟩
      rw [HE.out, ← hr]
      exact Sl.of_owns hown

end Go.Proofs.YtjbchkgkapccnaaGreatDoor
