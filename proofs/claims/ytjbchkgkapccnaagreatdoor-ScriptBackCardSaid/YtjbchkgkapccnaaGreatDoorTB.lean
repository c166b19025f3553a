/-
  The reference's line.
-/
import Derived.Test.YtjbchkgkapccnaaGreatDoorMT
import Derived.Test.YtjbchkgkapccnaaGreatDoorMU
import Derived.Test.YtjbchkgkapccnaaGreatDoorMP
import Derived.Deep.RegionHeld3
namespace Go.Proofs.YtjbchkgkapccnaaGreatDoor
open Go.RowKit
set_option linter.unusedVariables false

def wordsA : Array Value := #[.string { data := #[] }, .string { data := #[] }, .string { data := #[107, 101, 121] }, .string { data := #[118, 97, 108] }, .string { data := #[97, 99, 99] }, .string { data := #[45] }, .string { data := #[33] }, .string { data := #[43] }, .string { data := #[45] }, .string { data := #[42] }, .string { data := #[47] }, .string { data := #[37] }, .string { data := #[60] }, .string { data := #[60, 61] }, .string { data := #[61] }, .string { data := #[33, 61] }, .string { data := #[38] }, .string { data := #[124] }]
/-- The state within ref11.line. -/
structure RlW (w W : World) (o n : Int) (s : Value) : Prop where
  x : Blk W w.heap.size 47 #[.int .u8 o, .int .i64 n, s]
  ws : Blk W (w.heap.size + 1) 9 wordsA
  b : Below w.heap.size w W
theorem RlW.new (w : World) (o n : Int) (s : Value) : RlW w ((w.alloc (.cells #[.int .u8 o, .int .i64 n, s] 47)).alloc (.cells wordsA 9)) o n s :=
  ⟨(Blk.new _ _ _).alloc _, Blk.new_at _ _ _ (by simp), ((Below.refl _ _).alloc (Nat.le_refl _) _).alloc (by simp) _⟩
theorem RlW.below {w W W' : World} {o n : Int} {s : Value} (h : RlW w W o n s) (hb : Below W.heap.size W W') : RlW w W' o n s :=
  ⟨h.x.below hb h.x.lt, h.ws.below hb h.ws.lt, h.b.trans (hb.mono h.b.size)⟩
theorem word_at {W : World} {b : Nat} (h : Blk W b 9 wordsA) (k : Nat) (h5 : 5 ≤ k) (h17 : k ≤ 17) : W.cell? ⟨b, k, none⟩ = some (.string (sgnB (k : Int))) := by
  rw [h.cell k]
  obtain rfl | rfl | rfl | rfl | rfl | rfl | rfl | rfl | rfl | rfl | rfl | rfl | rfl : k = 5 ∨ k = 6 ∨ k = 7 ∨ k = 8 ∨ k = 9 ∨ k = 10 ∨ k = 11 ∨ k = 12 ∨ k = 13 ∨ k = 14 ∨ k = 15 ∨ k = 16 ∨ k = 17 := by omega
  all_goals rfl

/-- What is known of the parts. -/
def RlIH (h : Nat) : Prop := ∀ y : Ex, y.ht < h → ∀ (v : Value) (B : Nat) (w : World) (k : Nat), y.ok → mayB k y = true → ExAt w B v y → B ≤ w.heap.size → y.line.size ≤ 140737488355328 →
  Calls Tryz.prog 60 #[v] w fun e w' => e = .returned (.string y.line) ∧ Below w.heap.size w w'

set_option maxRecDepth 100000 in
set_option maxHeartbeats 1000000 in
theorem rl_num (x : Ex) (v : Value) (B : Nat) (w : World) (hv : ExAt w B v x) (hop : x.op = 1) (hn0 : 0 ≤ x.n) (hn1 : x.n ≤ 9223372036854775807) :
    Calls Tryz.prog 60 #[v] w fun e w' => e = .returned (.string x.line) ∧ Below w.heap.size w w' := by
  have hl : x.line = decB x.n.toNat := by rw [Ex.line_eq, hop]; rfl
  obtain ⟨sv, rfl, hs⟩ := hv
  obtain ⟨ad, cap, rfl, hcap, hmx⟩ := hs.slice
  rw [hl, hop]
  generalize x.n = n at *
  obtain ⟨m, rfl⟩ : ∃ m : Nat, n = (m : Int) := ⟨n.toNat, (Int.toNat_of_nonneg hn0).symm⟩
  have hmn : m ≤ 9223372036854775807 := by omega
  have h9 : ((m : Int)).toNat = m := Int.toNat_natCast m
  rw [h9]
  clear hl hs hn0 hn1 hop h9
  generalize x.args.length = l at *
  clear hcap hmx
  have hk := Blk.new w #[.int .u8 1, .int .i64 (m : Int), .slice ad l cap] 47
  have hb := (Below.refl w.heap.size w).alloc (Nat.le_refl _) (.cells #[.int .u8 1, .int .i64 (m : Int), .slice ad l cap] 47)
  go_enter Tryz.func60, Tryz.ntmps60
  go_upto_region 1 with fail
  generalize World.alloc w _ = W at *
  have p0 := hk.cell 0
  have p1 := hk.cell 1
  go_wp2_with fail
  refine (digits_c m hmn W).mono ?_
  rintro e w2 ⟨rfl, h2⟩
  go_wp2_with fail
  go_ret
  exact ⟨rfl, hb.trans (h2.mono hb.size)⟩

set_option maxRecDepth 100000 in
set_option maxHeartbeats 1000000 in
theorem rl_name (x : Ex) (v : Value) (B : Nat) (w : World) (hv : ExAt w B v x) (hop : x.op = 2 ∨ x.op = 3 ∨ x.op = 4) :
    Calls Tryz.prog 60 #[v] w fun e w' => e = .returned (.string x.line) ∧ Below w.heap.size w w' := by
  have hl : x.line = lineOp x.op x.n (x.args.map Ex.line) := Ex.line_eq x
  obtain ⟨sv, rfl, hs⟩ := hv
  obtain ⟨ad, cap, rfl, hcap, hmx⟩ := hs.slice
  rw [hl]
  have hL := RlW.new w x.op x.n (.slice ad x.args.length cap)
  have hk := Blk.new w #[.int .u8 x.op, .int .i64 x.n, .slice ad x.args.length cap] 47
  clear hl hs
  generalize x.args.map Ex.line = ls at *
  generalize x.op = o at *
  generalize x.n = n at *
  generalize x.args.length = l at *
  clear hcap hmx
  rcases hop with rfl | rfl | rfl
  all_goals
    go_enter Tryz.func60, Tryz.ntmps60
    go_upto_region 1 with fail
    have p0 := hk.cell 0
    go_upto_region 4 with fail
    unfold wordsA at hL
    generalize World.alloc (World.alloc w _) _ = W at *
    have p0 := hL.x.cell 0
    have k2 : W.cell? ⟨w.heap.size + 1, 2, none⟩ = some (.string { data := #[107, 101, 121] }) := hL.ws.cell 2
    have k3 : W.cell? ⟨w.heap.size + 1, 3, none⟩ = some (.string { data := #[118, 97, 108] }) := hL.ws.cell 3
    have k4 : W.cell? ⟨w.heap.size + 1, 4, none⟩ = some (.string { data := #[97, 99, 99] }) := hL.ws.cell 4
    go_wp2_with fail
    go_ret
    exact ⟨rfl, hL.b⟩

set_option maxRecDepth 100000 in
set_option maxHeartbeats 2000000 in
theorem rl_neg (x a : Ex) (IH : Hid (RlIH x.ht)) (v : Value) (B : Nat) (w : World) (k : Nat) (hv : ExAt w B v x) (hB : B ≤ w.heap.size) (hm : x.line.size ≤ 140737488355328) (hop : x.op = 5 ∨ x.op = 6) (hargs : x.args = [a]) (hok0 : a.ok) (hmay0 : mayB k a = true) :
    Calls Tryz.prog 60 #[v] w fun e w' => e = .returned (.string x.line) ∧ Below w.heap.size w w' := by
  have hl : x.line = ((kwOpen ++ sgnB x.op) ++ a.line) ++ kwShut := by
    rw [Ex.line_eq, hargs]
    rcases hop with h | h <;> rw [h] <;> rfl
  obtain ⟨sv, rfl, hs⟩ := hv
  have hlen : x.args.length = 1 := by rw [hargs]; rfl
  obtain ⟨b0, off0, cp0, s0, e0, hb0, c00, c01, c02, hsub0⟩ := (hs.mono hB).at_ 0 (by omega)
  simp only [hargs, List.getElem_cons_zero, Nat.zero_mul, Nat.add_zero] at c00 c01 c02 hsub0
  rw [hlen] at e0
  subst e0
  have hL := RlW.new w x.op x.n (.slice (some ⟨b0, off0, none⟩) 1 cp0)
  have hk := Blk.new w #[.int .u8 x.op, .int .i64 x.n, .slice (some ⟨b0, off0, none⟩) 1 cp0] 47
  obtain ⟨sa0, sc0, rfl, _, _⟩ := hsub0.slice
  have HX0 : Hid (∀ W, Below w.heap.size w W → ExAt W W.heap.size (.agg #[.int .u8 a.op, .int .i64 a.n, .slice sa0 a.args.length sc0]) a) := fun W hb => ⟨_, rfl, (hsub0.keep hb).mono hb.size⟩
  have hht0 : a.ht < x.ht := Ex.ht_args x a (by simp [hargs])
  rw [hl] at hm ⊢
  clear hl
  have z0 : a.line.size ≤ 140737488355328 := by simp only [ByteArray.size_append] at hm; omega
  have hsz := sgnB_size x.op
  generalize x.op = o at *
  generalize x.n = n at *
  generalize hx0 : a.op = ao0 at *
  generalize hy0 : a.n = an0 at *
  generalize hk0 : a.args.length = al0 at *
  clear hx0 hy0 hk0 hsub0 hs hlen hargs
  rcases hop with rfl | rfl
  · go_enter Tryz.func60, Tryz.ntmps60
    go_upto_region 1 with fail
    have p0 := hk.cell 0
    have p1 := hk.cell 1
    have p2 := hk.cell 2
    go_upto_region 4 with fail
    unfold wordsA at hL
    generalize World.alloc (World.alloc w _) _ = W at *
    clear p0 p1 p2 hk
    have hL : RlW w W 5 n (.slice (some ⟨b0, off0, none⟩) 1 cp0) := hL
    have p0 := hL.x.cell 0
    have p2 := hL.x.cell 2
    have d00 := (hL.b.cell (p := ⟨b0, off0, none⟩) hb0).trans c00
    have d01 := (hL.b.cell (p := ⟨b0, off0 + 1, none⟩) hb0).trans c01
    have d02 := (hL.b.cell (p := ⟨b0, off0 + 2, none⟩) hb0).trans c02
    go_wp2_with fail
    refine (IH.out a hht0 _ _ _ k hok0 hmay0 (HX0.out _ hL.b) (Nat.le_refl _) z0).mono ?_
    rintro e WhK ⟨rfl, hhK⟩
    have hK := hL.below hhK
    clear p0 p2 d00 d01 d02
    have p0 := hK.x.cell 0
    have p2 := hK.x.cell 2
    have k5 : WhK.cell? ⟨w.heap.size + 1, 5, none⟩ = some (.string (sgnB 5)) := word_at hK.ws 5 (by omega) (by omega)
    go_wp2_with fail
    go_ret
    exact ⟨by first | rfl | (simp only [ByteArray.append_assoc]; rfl), hK.b⟩
  · go_enter Tryz.func60, Tryz.ntmps60
    go_upto_region 1 with fail
    have p0 := hk.cell 0
    have p1 := hk.cell 1
    have p2 := hk.cell 2
    go_upto_region 4 with fail
    unfold wordsA at hL
    generalize World.alloc (World.alloc w _) _ = W at *
    clear p0 p1 p2 hk
    have hL : RlW w W 6 n (.slice (some ⟨b0, off0, none⟩) 1 cp0) := hL
    have p0 := hL.x.cell 0
    have p2 := hL.x.cell 2
    have d00 := (hL.b.cell (p := ⟨b0, off0, none⟩) hb0).trans c00
    have d01 := (hL.b.cell (p := ⟨b0, off0 + 1, none⟩) hb0).trans c01
    have d02 := (hL.b.cell (p := ⟨b0, off0 + 2, none⟩) hb0).trans c02
    go_wp2_with fail
    refine (IH.out a hht0 _ _ _ k hok0 hmay0 (HX0.out _ hL.b) (Nat.le_refl _) z0).mono ?_
    rintro e WhK ⟨rfl, hhK⟩
    have hK := hL.below hhK
    clear p0 p2 d00 d01 d02
    have p0 := hK.x.cell 0
    have p2 := hK.x.cell 2
    have k5 : WhK.cell? ⟨w.heap.size + 1, 6, none⟩ = some (.string (sgnB 6)) := word_at hK.ws 6 (by omega) (by omega)
    go_wp2_with fail
    go_ret
    exact ⟨by first | rfl | (simp only [ByteArray.append_assoc]; rfl), hK.b⟩

set_option maxRecDepth 100000 in
set_option maxHeartbeats 2000000 in
theorem rl_two (x a c : Ex) (IH : Hid (RlIH x.ht)) (v : Value) (B : Nat) (w : World) (k : Nat) (hv : ExAt w B v x) (hB : B ≤ w.heap.size) (hm : x.line.size ≤ 140737488355328) (hop5 : 7 ≤ x.op ∧ x.op ≤ 17) (hargs : x.args = [a, c]) (hok0 : a.ok) (hmay0 : mayB k a = true) (hok1 : c.ok) (hmay1 : mayB k c = true) :
    Calls Tryz.prog 60 #[v] w fun e w' => e = .returned (.string x.line) ∧ Below w.heap.size w w' := by
  have hl : x.line = (((kwOpen ++ a.line) ++ ((kwBlank ++ sgnB x.op) ++ kwBlank)) ++ c.line) ++ kwShut := by
    rw [Ex.line_eq, hargs]
    unfold lineOp
    rw [if_neg (by omega), if_neg (by omega), if_neg (by omega), if_neg (by omega), if_neg (by omega), if_neg (by omega)]
    rfl
  obtain ⟨sv, rfl, hs⟩ := hv
  have hlen : x.args.length = 2 := by rw [hargs]; rfl
  obtain ⟨b0, off0, cp0, s0, e0, hb0, c00, c01, c02, hsub0⟩ := (hs.mono hB).at_ 0 (by omega)
  simp only [hargs, List.getElem_cons_zero, Nat.zero_mul, Nat.add_zero] at c00 c01 c02 hsub0
  obtain ⟨b1, off1, cp1, s1, e1, hb1, c10, c11, c12, hsub1⟩ := (hs.mono hB).at_ 1 (by omega)
  simp only [hargs, List.getElem_cons_succ, List.getElem_cons_zero, Nat.one_mul] at c10 c11 c12 hsub1
  rw [hlen] at e0 e1
  subst e0
  simp only [Value.slice.injEq, true_and, Option.some.injEq, Addr.mk.injEq, and_true] at e1
  obtain ⟨⟨rfl, rfl⟩, rfl⟩ := e1
  have hL := RlW.new w x.op x.n (.slice (some ⟨b0, off0, none⟩) 2 cp0)
  have hk := Blk.new w #[.int .u8 x.op, .int .i64 x.n, .slice (some ⟨b0, off0, none⟩) 2 cp0] 47
  obtain ⟨sa0, sc0, rfl, _, _⟩ := hsub0.slice
  have HX0 : Hid (∀ W, Below w.heap.size w W → ExAt W W.heap.size (.agg #[.int .u8 a.op, .int .i64 a.n, .slice sa0 a.args.length sc0]) a) := fun W hb => ⟨_, rfl, (hsub0.keep hb).mono hb.size⟩
  have hht0 : a.ht < x.ht := Ex.ht_args x a (by simp [hargs])
  obtain ⟨sa1, sc1, rfl, _, _⟩ := hsub1.slice
  have HX1 : Hid (∀ W, Below w.heap.size w W → ExAt W W.heap.size (.agg #[.int .u8 c.op, .int .i64 c.n, .slice sa1 c.args.length sc1]) c) := fun W hb => ⟨_, rfl, (hsub1.keep hb).mono hb.size⟩
  have hht1 : c.ht < x.ht := Ex.ht_args x c (by simp [hargs])
  rw [hl] at hm ⊢
  clear hl
  have z0 : a.line.size ≤ 140737488355328 := by simp only [ByteArray.size_append] at hm; omega
  have z1 : c.line.size ≤ 140737488355328 := by simp only [ByteArray.size_append] at hm; omega
  have hsz := sgnB_size x.op
  have hmm : a.line.size + c.line.size + 6 ≤ 140737488355330 := by
    simp only [ByteArray.size_append] at hm
    have e1 : kwOpen.size = 1 := rfl
    have e2 : kwShut.size = 1 := rfl
    have e3 : kwBlank.size = 1 := rfl
    omega
  generalize x.op = o at *
  obtain ⟨m, rfl⟩ : ∃ m : Nat, o = (m : Int) := ⟨o.toNat, by omega⟩
  have g1 : ((m : Int) == 1) = false := by simp; omega
  have g18 : ((m : Int) == 18) = false := by simp; omega
  have g4 : ¬ (m : Int) ≤ 4 := by omega
  have g6 : ¬ (m : Int) ≤ 6 := by omega
  have n4 : ¬ m ≤ 4 := by omega
  have n6 : ¬ m ≤ 6 := by omega
  have n17 : m < 18 := by omega
  have i17 : (m : Int) < 18 := by omega
  generalize x.n = n at *
  generalize hx0 : a.op = ao0 at *
  generalize hy0 : a.n = an0 at *
  generalize hk0 : a.args.length = al0 at *
  generalize hx1 : c.op = ao1 at *
  generalize hy1 : c.n = an1 at *
  generalize hk1 : c.args.length = al1 at *
  clear hx0 hy0 hk0 hsub0 hx1 hy1 hk1 hsub1 hs hlen hargs
  go_enter Tryz.func60, Tryz.ntmps60
  go_upto_region 1 with fail
  have p0 := hk.cell 0
  have p1 := hk.cell 1
  have p2 := hk.cell 2
  go_upto_region 4 with fail
  unfold wordsA at hL
  generalize World.alloc (World.alloc w _) _ = W at *
  clear p0 p1 p2 hk
  have hL : RlW w W m n (.slice (some ⟨b0, off0, none⟩) 2 cp0) := hL
  have p0 := hL.x.cell 0
  have p2 := hL.x.cell 2
  have d00 := (hL.b.cell (p := ⟨b0, off0, none⟩) hb0).trans c00
  have d01 := (hL.b.cell (p := ⟨b0, off0 + 1, none⟩) hb0).trans c01
  have d02 := (hL.b.cell (p := ⟨b0, off0 + 2, none⟩) hb0).trans c02
  go_wp2_with fail
  refine (IH.out a hht0 _ _ _ k hok0 hmay0 (HX0.out _ hL.b) (Nat.le_refl _) z0).mono ?_
  rintro e WhK ⟨rfl, hhK⟩
  have hK := hL.below hhK
  clear p0 p2 d00 d01 d02
  have p0 := hK.x.cell 0
  have p2 := hK.x.cell 2
  have d10 := (hK.b.cell (p := ⟨b0, off0 + 3, none⟩) hb0).trans c10
  have d11 := (hK.b.cell (p := ⟨b0, off0 + 3 + 1, none⟩) hb0).trans c11
  have d12 := (hK.b.cell (p := ⟨b0, off0 + 3 + 2, none⟩) hb0).trans c12
  have f11 : World.cell? _ ⟨b0, off0 + 4, none⟩ = _ := d11
  have f12 : World.cell? _ ⟨b0, off0 + 5, none⟩ = _ := d12
  go_wp2_with fail
  refine (IH.out c hht1 _ _ _ k hok1 hmay1 (HX1.out _ hK.b) (Nat.le_refl _) z1).mono ?_
  rintro e WhM ⟨rfl, hhM⟩
  have hM := hK.below hhM
  clear p0 p2 d10 d11 d12 f11 f12
  have p0 := hM.x.cell 0
  have p2 := hM.x.cell 2
  have k5 : WhM.cell? ⟨w.heap.size + 1, m, none⟩ = some (.string (sgnB (m : Int))) := word_at hM.ws m (by omega) (by omega)
  clear hm hop5
  go_wp2_with fail
  go_ret
  exact ⟨by simp only [ByteArray.append_assoc]; rfl, hM.b⟩

set_option maxRecDepth 100000 in
set_option maxHeartbeats 2000000 in
theorem rl_if (x a c e : Ex) (IH : Hid (RlIH x.ht)) (v : Value) (B : Nat) (w : World) (k : Nat) (hv : ExAt w B v x) (hB : B ≤ w.heap.size) (hm : x.line.size ≤ 140737488355328) (hop : x.op = 18) (hargs : x.args = [a, c, e]) (hok0 : a.ok) (hmay0 : mayB k a = true) (hok1 : c.ok) (hmay1 : mayB k c = true) (hok2 : e.ok) (hmay2 : mayB k e = true) :
    Calls Tryz.prog 60 #[v] w fun e w' => e = .returned (.string x.line) ∧ Below w.heap.size w w' := by
  have hl : x.line = ((((((kwOpen ++ kwIf) ++ a.line) ++ kwThen) ++ c.line) ++ kwElse) ++ e.line) ++ kwShut := by
    rw [Ex.line_eq, hargs, hop]
    rfl
  obtain ⟨sv, rfl, hs⟩ := hv
  have hlen : x.args.length = 3 := by rw [hargs]; rfl
  obtain ⟨b0, off0, cp0, s0, e0, hb0, c00, c01, c02, hsub0⟩ := (hs.mono hB).at_ 0 (by omega)
  simp only [hargs, List.getElem_cons_zero, Nat.zero_mul, Nat.add_zero] at c00 c01 c02 hsub0
  obtain ⟨b1, off1, cp1, s1, e1, hb1, c10, c11, c12, hsub1⟩ := (hs.mono hB).at_ 1 (by omega)
  simp only [hargs, List.getElem_cons_succ, List.getElem_cons_zero, Nat.one_mul] at c10 c11 c12 hsub1
  obtain ⟨b2, off2, cp2, s2, e2, hb2, c20, c21, c22, hsub2⟩ := (hs.mono hB).at_ 2 (by omega)
  simp only [hargs, List.getElem_cons_succ, List.getElem_cons_zero, Nat.reduceMul] at c20 c21 c22 hsub2
  rw [hlen] at e0 e1 e2
  subst e0
  simp only [Value.slice.injEq, true_and, Option.some.injEq, Addr.mk.injEq, and_true] at e1
  obtain ⟨⟨rfl, rfl⟩, rfl⟩ := e1
  simp only [Value.slice.injEq, true_and, Option.some.injEq, Addr.mk.injEq, and_true] at e2
  obtain ⟨⟨rfl, rfl⟩, rfl⟩ := e2
  have hL := RlW.new w x.op x.n (.slice (some ⟨b0, off0, none⟩) 3 cp0)
  have hk := Blk.new w #[.int .u8 x.op, .int .i64 x.n, .slice (some ⟨b0, off0, none⟩) 3 cp0] 47
  obtain ⟨sa0, sc0, rfl, _, _⟩ := hsub0.slice
  have HX0 : Hid (∀ W, Below w.heap.size w W → ExAt W W.heap.size (.agg #[.int .u8 a.op, .int .i64 a.n, .slice sa0 a.args.length sc0]) a) := fun W hb => ⟨_, rfl, (hsub0.keep hb).mono hb.size⟩
  have hht0 : a.ht < x.ht := Ex.ht_args x a (by simp [hargs])
  obtain ⟨sa1, sc1, rfl, _, _⟩ := hsub1.slice
  have HX1 : Hid (∀ W, Below w.heap.size w W → ExAt W W.heap.size (.agg #[.int .u8 c.op, .int .i64 c.n, .slice sa1 c.args.length sc1]) c) := fun W hb => ⟨_, rfl, (hsub1.keep hb).mono hb.size⟩
  have hht1 : c.ht < x.ht := Ex.ht_args x c (by simp [hargs])
  obtain ⟨sa2, sc2, rfl, _, _⟩ := hsub2.slice
  have HX2 : Hid (∀ W, Below w.heap.size w W → ExAt W W.heap.size (.agg #[.int .u8 e.op, .int .i64 e.n, .slice sa2 e.args.length sc2]) e) := fun W hb => ⟨_, rfl, (hsub2.keep hb).mono hb.size⟩
  have hht2 : e.ht < x.ht := Ex.ht_args x e (by simp [hargs])
  rw [hl] at hm ⊢
  rw [hop] at hL hk ⊢
  clear hl hop
  have z0 : a.line.size ≤ 140737488355328 := by simp only [ByteArray.size_append] at hm; omega
  have z1 : c.line.size ≤ 140737488355328 := by simp only [ByteArray.size_append] at hm; omega
  have z2 : e.line.size ≤ 140737488355328 := by simp only [ByteArray.size_append] at hm; omega
  have hmm : a.line.size + c.line.size + e.line.size + 17 ≤ 140737488355328 := by
    simp only [ByteArray.size_append] at hm
    have e1 : kwOpen.size = 1 := rfl
    have e2 : kwShut.size = 1 := rfl
    have e3 : kwIf.size = 3 := rfl
    have e4 : kwThen.size = 6 := rfl
    have e5 : kwElse.size = 6 := rfl
    omega
  generalize x.n = n at *
  generalize hx0 : a.op = ao0 at *
  generalize hy0 : a.n = an0 at *
  generalize hk0 : a.args.length = al0 at *
  generalize hx1 : c.op = ao1 at *
  generalize hy1 : c.n = an1 at *
  generalize hk1 : c.args.length = al1 at *
  generalize hx2 : e.op = ao2 at *
  generalize hy2 : e.n = an2 at *
  generalize hk2 : e.args.length = al2 at *
  clear hx0 hy0 hk0 hsub0 hx1 hy1 hk1 hsub1 hx2 hy2 hk2 hsub2 hs hlen hargs
  go_enter Tryz.func60, Tryz.ntmps60
  go_upto_region 1 with fail
  have p0 := hk.cell 0
  have p1 := hk.cell 1
  have p2 := hk.cell 2
  go_upto_region 4 with fail
  unfold wordsA at hL
  generalize World.alloc (World.alloc w _) _ = W at *
  clear p0 p1 p2 hk
  have hL : RlW w W 18 n (.slice (some ⟨b0, off0, none⟩) 3 cp0) := hL
  have p0 := hL.x.cell 0
  have p2 := hL.x.cell 2
  have d00 := (hL.b.cell (p := ⟨b0, off0, none⟩) hb0).trans c00
  have d01 := (hL.b.cell (p := ⟨b0, off0 + 1, none⟩) hb0).trans c01
  have d02 := (hL.b.cell (p := ⟨b0, off0 + 2, none⟩) hb0).trans c02
  go_wp2_with fail
  refine (IH.out a hht0 _ _ _ k hok0 hmay0 (HX0.out _ hL.b) (Nat.le_refl _) z0).mono ?_
  rintro e WhK ⟨rfl, hhK⟩
  have hK := hL.below hhK
  clear p0 p2 d00 d01 d02
  have p0 := hK.x.cell 0
  have p2 := hK.x.cell 2
  have d10 := (hK.b.cell (p := ⟨b0, off0 + 3, none⟩) hb0).trans c10
  have d11 := (hK.b.cell (p := ⟨b0, off0 + 3 + 1, none⟩) hb0).trans c11
  have d12 := (hK.b.cell (p := ⟨b0, off0 + 3 + 2, none⟩) hb0).trans c12
  have f11 : World.cell? _ ⟨b0, off0 + 4, none⟩ = _ := d11
  have f12 : World.cell? _ ⟨b0, off0 + 5, none⟩ = _ := d12
  go_wp2_with fail
  refine (IH.out c hht1 _ _ _ k hok1 hmay1 (HX1.out _ hK.b) (Nat.le_refl _) z1).mono ?_
  rintro e WhM ⟨rfl, hhM⟩
  have hM := hK.below hhM
  clear p0 p2 d10 d11 d12 f11 f12
  have p0 := hM.x.cell 0
  have p2 := hM.x.cell 2
  have d20 := (hM.b.cell (p := ⟨b0, off0 + 6, none⟩) hb0).trans c20
  have d21 := (hM.b.cell (p := ⟨b0, off0 + 6 + 1, none⟩) hb0).trans c21
  have d22 := (hM.b.cell (p := ⟨b0, off0 + 6 + 2, none⟩) hb0).trans c22
  have f21 : World.cell? _ ⟨b0, off0 + 7, none⟩ = _ := d21
  have f22 : World.cell? _ ⟨b0, off0 + 8, none⟩ = _ := d22
  go_wp2_with fail
  refine (IH.out e hht2 _ _ _ k hok2 hmay2 (HX2.out _ hM.b) (Nat.le_refl _) z2).mono ?_
  rintro e WhQ ⟨rfl, hhQ⟩
  have hQ := hM.below hhQ
  clear p0 p2 d20 d21 d22 f21 f22
  clear hm
  go_wp2_with fail
  go_ret
  exact ⟨by simp only [ByteArray.append_assoc]; rfl, hQ.b⟩

end Go.Proofs.YtjbchkgkapccnaaGreatDoor
