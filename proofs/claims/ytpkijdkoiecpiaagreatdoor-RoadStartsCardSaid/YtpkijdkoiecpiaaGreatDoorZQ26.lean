/-
  Parts of the proof: P1 P2 P3.
-/
import Derived.BigQuiet
import Derived.Shelf.Abstract
import Derived.Test.YtpkijdkoiecpiaaGreatDoorZQ25
namespace Go.Proofs.YtpkijdkoiecpiaaGreatDoor
open Go.RowKit
set_option linter.unusedVariables false
set_option linter.unusedSimpArgs false
theorem app_fit {d : Dk} {f : Nat} {s : ByteArray} (h16 : d.now.length = 16) (hf : f < 16) (hfit : (Dk.sum ((Chg.app f s).does d.now) : Int) ≤ d.room) (hr : d.room ≤ 4194304) : (fl d.now f).size + s.size ≤ 4194304 := by
 have h1 := sum_le ((Chg.app f s).does d.now) f
 have h2 : fl ((Chg.app f s).does d.now) f = fl d.now f ++ s := by
  show fl (d.now.set f _) f = _
  rw [fl_set _ _ _ _ (by omega), if_pos rfl]
 rw [h2, ByteArray.size_append] at h1
 omega
theorem Bq.keepW {w w1 : World} {b : Nat} {v : Value} (h : Bq w b v) {D : Nat} (hne : b ≠ D) (hk : ∀ b, b < w.heap.size → b ≠ D → w1.heap[b]? = w.heap[b]?) : Bq w1 b v := h.keep (hk b h.lt hne)
theorem doesC_app (D bp bf bs f : Nat) (s : ByteArray) (w : World) (h0 : Bq w bp (appPartV bf bs)) (h1 : Bq w bf (.int .i64 f)) (h2 : Bq w bs (.string s)) (n0 : bp ≠ D) (n1 : bf ≠ D) (n2 : bs ≠ D) : DoesC 131 (px bp) (px bs) D (.app f s) w := by
 intro w1 d1 lv hb hi hok hfit hk
 have hf : f < 16 := hok
 refine (appDoes_c D 1 bp bf bs f s (fl d1.now f) _ _ w1 hb hf (dkC_now hi.len f hf) ?_ (h0.keepW n0 hk) (h1.keepW n1 hk) (h2.keepW n2 hk)).mono ?_
 ·have := app_fit hi.now16 hf hfit hi.room2; omega
 ·rintro e w' ⟨rfl, h3, h4⟩
  rw [dkC_set_now hi.len f hf] at h3
  exact ⟨rfl, h3, h4⟩
theorem doesC_cut (D bf bn f n : Nat) (w : World) (h1 : Bq w bf (.int .i64 f)) (h2 : Bq w bn (.int .i64 n)) (n1 : bf ≠ D) (n2 : bn ≠ D) : DoesC 133 (px bf) (px bn) D (.cut f n) w := by
 intro w1 d1 lv hb hi hok hfit hk
 obtain ⟨hf, hn⟩ := hok
 refine (cutDoes_c D 1 bf bn f n (fl d1.now f) _ _ w1 hb hf (dkC_now hi.len f hf) hn (h1.keepW n1 hk) (h2.keepW n2 hk)).mono ?_
 rintro e w' ⟨rfl, h3, h4⟩
 rw [dkC_set_now hi.len f hf] at h3
 exact ⟨rfl, h3, h4⟩
theorem two_boxes (w : World) (u v : Value) (t1 t2 : TypeId) : Bq ((w.alloc (.cells #[u] t1)).alloc (.cells #[v] t2)) w.heap.size u ∧ Bq ((w.alloc (.cells #[u] t1)).alloc (.cells #[v] t2)) (w.heap.size + 1) v ∧
  Below w.heap.size w ((w.alloc (.cells #[u] t1)).alloc (.cells #[v] t2)) ∧ ((w.alloc (.cells #[u] t1)).alloc (.cells #[v] t2)).heap.size = w.heap.size + 2 :=
 ⟨(Bq.new_at w u t1 rfl).alloc _, Bq.new_at _ v t2 (by simp), ((Below.refl w.heap.size w).alloc (Nat.le_refl _) _).alloc (by simp) _, by simp⟩
set_option maxRecDepth 100000 in
set_option maxHeartbeats 2000000 in
theorem Append_c (w : World) (M : Nat → Prop) (D : Nat) (d : Dk) (h : DkAt w M D d) (f : Int) (s : ByteArray) (hs : s.size ≤ 140737488355328) (hll : d.loose.length ≤ 1000000000) :
  Calls Tryz.prog 69 #[px D, .int .i64 f, .string s] w fun e w' => e = .returned (.int .i64 (d.append f s).2) ∧ DkTo w w' M D (d.append f s).1 := by
 obtain ⟨lv, hb, hL⟩ := id h.ex
 have hld := h.inv.len
 have hDlt := h.lt D h.mem
 have HRD : Hid (∀ W : World, Below w.heap.size w W → Calls Tryz.prog 68 #[px D, .slice (some ⟨W.heap.size, 0, none⟩) 1 1] (W.alloc (.cells #[.int .i64 f] 3)) fun e w' => e = .returned (.int .i64 (if d.off = true then 50 else if Dk.isF f = false then 2 else 0)) ∧ (W.alloc (.cells #[.int .i64 f] 3)) = w') := by
  intro W hW
  rw [← rdy_one]
  exact ready_c D _ d lv ((hb.below hW hDlt).alloc _) hld [f] 1 _ _ (int_one (Blk.new W _ _))
 have HE : Hid (d.append f s = if d.off = true then (d, 50) else if Dk.isF f = false then (d, 2) else if d.free < (s.size : Int) then (d, 7) else d.change (.app f.toNat s)) := rfl
 have HI := Lib.hid (h.inv.append f s)
 generalize d.append f s = R at *
 unfold px at HRD ⊢
 have HH := Lib.hid h
 have HLF := Lib.hid (fun W (hb : Blk W D 101 (dkC d lv)) => Left_c D W d lv hb hld h.inv.fits h.inv.room2)
 have HBX := Lib.hid (two_boxes w (.int .i64 f) (.string s) 3 9)
 have HB := Lib.hid hb
 have HLL := Lib.hid hll
 have HD := Lib.hid hDlt
 clear hL hb h hld hll hDlt
 by_cases ho : d.off = true
 ·rw [if_pos ho] at HE
  simp only [if_pos ho] at HRD
  clear ho
  go_enter Tryz.func69, Tryz.ntmps69
  go_upto_region 1 with fail
  obtain ⟨x1, x2, hB2, z2⟩ := HBX.out
  generalize World.alloc (World.alloc w _) _ = W2 at *
  have c1 := x1.cell
  clear z2
  have HR2 := Lib.hid (HRD.out W2 hB2)
  go_wp2_with (first | (go_at_call 68; refine HR2.out.mono ?_; rintro e w1 ⟨rfl, rfl⟩) | fail)
  go_ret
  rw [HE.out]
  exact ⟨rfl, HH.out.toB (hB2.alloc hB2.size _)⟩
 rw [if_neg ho] at HE
 simp only [if_neg ho] at HRD
 clear ho
 cases hf : Dk.isF f
 ·rw [hf, if_pos rfl] at HE
  simp only [hf, if_pos] at HRD
  go_enter Tryz.func69, Tryz.ntmps69
  go_upto_region 1 with fail
  obtain ⟨x1, x2, hB2, z2⟩ := HBX.out
  generalize World.alloc (World.alloc w _) _ = W2 at *
  have c1 := x1.cell
  clear z2
  have HR2 := Lib.hid (HRD.out W2 hB2)
  go_wp2_with (first | (go_at_call 68; refine HR2.out.mono ?_; rintro e w1 ⟨rfl, rfl⟩) | fail)
  go_ret
  rw [HE.out]
  exact ⟨rfl, HH.out.toB (hB2.alloc hB2.size _)⟩
 rw [hf, if_neg (by decide)] at HE
 have hff : (if Dk.isF f = false then (2 : Int) else 0) = 0 := by rw [hf]; rfl
 simp only [hff] at HRD
 clear hff
 obtain ⟨n, rfl, hn⟩ := isF_ir hf
 rw [Int.toNat_natCast] at HE
 clear hf
 go_enter Tryz.func69, Tryz.ntmps69
 go_upto_region 1 with fail
 obtain ⟨x1, x2, hB2, z2⟩ := HBX.out
 generalize World.alloc (World.alloc w _) _ = W2 at *
 have c1 := x1.cell
 have Z2 := Lib.hid z2
 clear z2
 have HR2 := Lib.hid (HRD.out W2 hB2)
 go_upto_region 4 with (first | (go_at_call 68; refine HR2.out.mono ?_; rintro e w1 ⟨rfl, rfl⟩) | fail)
 have hB3 := hB2.alloc hB2.size (.cells #[.int .i64 n] 3)
 have y1 := x1.alloc (.cells #[.int .i64 n] 3)
 have y2 := x2.alloc (.cells #[.int .i64 n] 3)
 have z3 : (W2.alloc (.cells #[.int .i64 n] 3)).heap.size = w.heap.size + 3 := by simp [Z2.out]
 generalize World.alloc W2 _ = W3 at *
 have c2 := y2.cell
 have HL3 : Hid (∀ W : World, W.heap = W3.heap → Calls Tryz.prog 128 #[px D] W fun e w' => e = .returned (.int .i64 d.free) ∧ W = w') := fun W hW => HLF.out W (by unfold Blk; rw [hW]; exact HB.out.below hB3 HD.out)
 have Z3 := Lib.hid z3
 clear x1 x2 c1 HR2 z3 hB2 HRD HLF
 unfold px at HL3
 by_cases hfr : d.free < (s.size : Int)
 ·rw [if_pos hfr] at HE
  have hd : decide (d.free < (s.size : Int)) = true := decide_eq_true hfr
  generalize d.free = FR at *
  go_region_with (first | (go_at_call 128; refine (HL3.out W3.drew rfl).mono ?_; rintro e w1 ⟨rfl, rfl⟩))
  all_goals
   go_wp2_with fail
   go_ret
   rw [HE.out]
   exact ⟨rfl, HH.out.toB hB3.drew⟩
 ·rw [if_neg hfr] at HE
  have hfr2 : Hid (¬ d.free < (s.size : Int)) := hfr
  have hd : decide (d.free < (s.size : Int)) = false := decide_eq_false hfr
  have hfit : Hid ((Dk.sum ((Chg.app n s).does d.now) : Int) ≤ d.room) := by
   have h16 := HH.out.inv.now16
   have := sum_set d.now n (fl d.now n ++ s) (by rw [h16]; exact hn)
   rw [ByteArray.size_append] at this
   unfold Dk.free at hfr
   show (Dk.sum (d.now.set n (fl d.now n ++ s)) : Int) ≤ d.room
   omega
  have hmf : ∀ (fn : Fn) (first cap : Array Value) (w : World), (Instr.makeFunc fn first cap).run Tryz.prog w = .ok (.func fn first cap) w := fun _ _ _ _ => rfl
  have hst : ∀ (a : Addr) (fn : Fn) (first cap : Array Value) (w : World), (store a (.func fn first cap)).run Tryz.prog w = stored Tryz.prog w a (.func fn first cap) .plain := fun a fn f c w => run_store _ w a _ _ rfl
  clear hfr
  generalize d.free = FR at *
  go_region_with (first | (go_at_call 128; refine (HL3.out W3.drew rfl).mono ?_; rintro e w1 ⟨rfl, rfl⟩))
  all_goals
   have y1 : Bq W3.drew w.heap.size (.int .i64 (n : Int)) := y1
   have y2 : Bq W3.drew (w.heap.size + 1) (.string s) := y2
   have c2 := y2.cell
   have hB5 := hB3.drew
   have hsz5 : w.heap.size + 3 = W3.drew.heap.size := Z3.out.symm
   clear hB3 HL3 Z2 Z3
   generalize W3.drew = W5 at *
   have HZ := Lib.hid hsz5
   clear hsz5
   go_upto_region 7 with fail
   have y3 : Bq (W5.alloc (.cells #[appPartV w.heap.size (w.heap.size + 1)] 122)) W5.heap.size (appPartV w.heap.size (w.heap.size + 1)) := Bq.new_at W5 _ _ rfl
   have y1 := y1.alloc (.cells #[appPartV w.heap.size (w.heap.size + 1)] 122)
   have y2 := y2.alloc (.cells #[appPartV w.heap.size (w.heap.size + 1)] 122)
   have hB6 := hB5.alloc hB5.size (.cells #[appPartV w.heap.size (w.heap.size + 1)] 122)
   have hbp := HZ.out
   generalize hg : W5.heap.size = bp at *
   have c3 := y3.cell
   clear c2
   unfold appPartV px at y1 y2 y3 c3 hB6
   generalize World.alloc W5 _ = W6 at *
   have HCH := Lib.hid (change_g 131 (px bp) (px (w.heap.size + 1)) (appPartV w.heap.size (w.heap.size + 1)) (.app n s) (enters_of Tryz.func131 (by kernel_rfl) rfl) rfl W6 M (fun b => b = bp ∨ b = w.heap.size ∨ b = w.heap.size + 1) D d (HH.out.below hB6)
    (doesC_app D bp w.heap.size (w.heap.size + 1) n s W6 y3 y1 y2 (by have := HD.out; omega) (by have := HD.out; omega) (by have := HD.out; omega))
    ⟨bp, w.heap.size + 1, w.heap.size, rfl, rfl, y3, y2, y1, .inl rfl, .inr (.inr rfl), .inr (.inl rfl)⟩
    (by
     rintro b (rfl | rfl | rfl)
     ·exact ⟨y3.lt, fun hm => by have := HH.out.lt _ hm; omega⟩
     ·exact ⟨y1.lt, fun hm => by have := HH.out.lt _ hm; omega⟩
     ·exact ⟨y2.lt, fun hm => by have := HH.out.lt _ hm; omega⟩) hn hfit.out HLL.out)
   unfold appPartV px at HCH
   clear y1 y2 y3
   go_wp2_with (first | (go_at_call 130; refine HCH.out.mono ?_; rintro e w7 ⟨rfl, hf7, N, hN, hd7⟩) | fail)
   go_ret
   rw [HE.out]
   refine ⟨rfl, (Fr.of_new hB6).step hf7 (fun _ _ h => h) (fun _ _ h => h), N, fun b hb => ?_, hd7⟩
   rcases hN b hb with h | (h | h | h) | h
   ·exact .inl h
   ·subst h; right; omega
   ·subst h; right; omega
   ·subst h; right; omega
   ·have := hB6.size; right; omega
set_option maxRecDepth 100000 in
set_option maxHeartbeats 2000000 in
theorem Cut_c (w : World) (M : Nat → Prop) (D : Nat) (d : Dk) (h : DkAt w M D d) (f z : Int) (hll : d.loose.length ≤ 1000000000) :
  Calls Tryz.prog 71 #[px D, .int .i64 f, .int .i64 z] w fun e w' => e = .returned (.int .i64 (d.cut f z).2) ∧ DkTo w w' M D (d.cut f z).1 := by
 obtain ⟨lv, hb, hL⟩ := id h.ex
 have hld := h.inv.len
 have hDlt := h.lt D h.mem
 have HRD : Hid (∀ W : World, Below w.heap.size w W → Calls Tryz.prog 68 #[px D, .slice (some ⟨W.heap.size, 0, none⟩) 1 1] (W.alloc (.cells #[.int .i64 f] 3)) fun e w' => e = .returned (.int .i64 (if d.off = true then 50 else if Dk.isF f = false then 2 else 0)) ∧ (W.alloc (.cells #[.int .i64 f] 3)) = w') := by
  intro W hW
  rw [← rdy_one]
  exact ready_c D _ d lv ((hb.below hW hDlt).alloc _) hld [f] 1 _ _ (int_one (Blk.new W _ _))
 have HE : Hid (d.cut f z = if d.off = true then (d, 50) else if Dk.isF f = false then (d, 2) else if z < 0 ∨ ((fl d.now f.toNat).size : Int) < z then (d, 5) else d.change (.cut f.toNat z.toNat)) := rfl
 generalize d.cut f z = R at *
 unfold px at HRD ⊢
 have HH := Lib.hid h
 have HBX := Lib.hid (two_boxes w (.int .i64 f) (.int .i64 z) 3 3)
 have HB := Lib.hid hb
 have HLL := Lib.hid hll
 have HD := Lib.hid hDlt
 have HLD := Lib.hid hld
 clear hL hb h hld hll hDlt
 by_cases ho : d.off = true
 ·rw [if_pos ho] at HE
  simp only [if_pos ho] at HRD
  clear ho
  go_enter Tryz.func71, Tryz.ntmps71
  go_upto_region 1 with fail
  obtain ⟨x1, x2, hB2, z2⟩ := HBX.out
  generalize World.alloc (World.alloc w _) _ = W2 at *
  have c1 := x1.cell
  clear z2
  have HR2 := Lib.hid (HRD.out W2 hB2)
  go_wp2_with (first | (go_at_call 68; refine HR2.out.mono ?_; rintro e w1 ⟨rfl, rfl⟩) | fail)
  go_ret
  rw [HE.out]
  exact ⟨rfl, HH.out.toB (hB2.alloc hB2.size _)⟩
 rw [if_neg ho] at HE
 simp only [if_neg ho] at HRD
 clear ho
 cases hf : Dk.isF f
 ·rw [hf, if_pos rfl] at HE
  simp only [hf, if_pos] at HRD
  go_enter Tryz.func71, Tryz.ntmps71
  go_upto_region 1 with fail
  obtain ⟨x1, x2, hB2, z2⟩ := HBX.out
  generalize World.alloc (World.alloc w _) _ = W2 at *
  have c1 := x1.cell
  clear z2
  have HR2 := Lib.hid (HRD.out W2 hB2)
  go_wp2_with (first | (go_at_call 68; refine HR2.out.mono ?_; rintro e w1 ⟨rfl, rfl⟩) | fail)
  go_ret
  rw [HE.out]
  exact ⟨rfl, HH.out.toB (hB2.alloc hB2.size _)⟩
 rw [hf, if_neg (by decide)] at HE
 have hff : (if Dk.isF f = false then (2 : Int) else 0) = 0 := by rw [hf]; rfl
 simp only [hff] at HRD
 clear hff
 obtain ⟨n, rfl, hn⟩ := isF_ir hf
 rw [Int.toNat_natCast] at HE
 clear hf
 go_enter Tryz.func71, Tryz.ntmps71
 go_upto_region 1 with fail
 obtain ⟨x1, x2, hB2, z2⟩ := HBX.out
 generalize World.alloc (World.alloc w _) _ = W2 at *
 have c1 := x1.cell
 have Z2 := Lib.hid z2
 clear z2
 have HR2 := Lib.hid (HRD.out W2 hB2)
 go_upto_region 4 with (first | (go_at_call 68; refine HR2.out.mono ?_; rintro e w1 ⟨rfl, rfl⟩) | fail)
 have hB3 := hB2.alloc hB2.size (.cells #[.int .i64 n] 3)
 have y1 := x1.alloc (.cells #[.int .i64 n] 3)
 have y2 := x2.alloc (.cells #[.int .i64 n] 3)
 have z3 : (W2.alloc (.cells #[.int .i64 n] 3)).heap.size = w.heap.size + 3 := by simp [Z2.out]
 generalize World.alloc W2 _ = W3 at *
 have c1' := y1.cell
 have c2 := y2.cell
 have Z3 := Lib.hid z3
 have hb3 := HB.out.below hB3 HD.out
 have cn := (hb3.cell (1 + n)).trans (dkC_now HLD.out n hn)
 have hn16 : (n : Int) < 16 := by omega
 have hn0 : (0 : Int) ≤ (n : Int) := by omega
 have hsz0 : (fl d.now n).size ≤ 4194304 := by
  have h1 := sum_le d.now n
  have h2 := HH.out.inv.fits
  have h3 := HH.out.inv.room2
  omega
 clear x1 x2 c1 HR2 z3 hB2 HRD hb3
 have HX : Hid (fl d.now n = fl d.now n) := rfl
 generalize hx : fl d.now n = x at *
 have HXX := Lib.hid hx
 clear hx HX
 have hne1 : D ≠ w.heap.size := by have := HD.out; omega
 by_cases hz : z < 0
 ·rw [if_pos (.inl hz)] at HE
  have d1 : decide (z < 0) = true := decide_eq_true hz
  go_quiet (fail)
  go_wp2_with fail
  go_ret
  rw [HE.out]
  exact ⟨rfl, HH.out.toB (below_drewN hB3 _)⟩
 have d1 : decide (z < 0) = false := decide_eq_false hz
 by_cases hz2 : (x.size : Int) < z
 ·rw [if_pos (.inr hz2)] at HE
  have d2 : decide ((x.size : Int) < z) = true := decide_eq_true hz2
  go_quiet (fail)
  go_wp2_with fail
  go_ret
  rw [HE.out]
  exact ⟨rfl, HH.out.toB (below_drewN hB3 _)⟩
 ·have d2 : decide ((x.size : Int) < z) = false := decide_eq_false hz2
  rw [if_neg (fun h => by rcases h with h | h; exact hz h; exact hz2 h)] at HE
  obtain ⟨m, rfl⟩ : ∃ m : Nat, z = (m : Int) := ⟨z.toNat, by omega⟩
  rw [Int.toNat_natCast] at HE
  have hok : Hid (Chg.okIn (.cut n m) d.now) := ⟨hn, by rw [HXX.out]; omega⟩
  have hfit : Hid ((Dk.sum ((Chg.cut n m).does d.now) : Int) ≤ d.room) := by
   have h1 := does_sum_cut n m d.now (by rw [HH.out.inv.now16]; exact hn)
   have h2 := HH.out.inv.fits
   show (_ : Int) ≤ _
   omega
  have hmf : ∀ (fn : Fn) (first cap : Array Value) (w : World), (Instr.makeFunc fn first cap).run Tryz.prog w = .ok (.func fn first cap) w := fun _ _ _ _ => rfl
  go_quiet (fail)
  have y1 : Bq (W3.drewN nq) w.heap.size (.int .i64 (n : Int)) := y1
  have y2 : Bq (W3.drewN nq) (w.heap.size + 1) (.int .i64 (m : Int)) := y2
  have hB4 := below_drewN hB3 nq
  clear c1' c2 cn hB3 Z3
  generalize World.drewN W3 nq = W6 at *
  have HCH := Lib.hid (change_g 133 (px w.heap.size) (px (w.heap.size + 1)) .nilFunc (.cut n m) (enters_of Tryz.func133 (by kernel_rfl) rfl) rfl W6 M (fun b => b = w.heap.size ∨ b = w.heap.size + 1) D d (HH.out.below hB4)
   (doesC_cut D w.heap.size (w.heap.size + 1) n m W6 y1 y2 (by have := HD.out; omega) (by have := HD.out; omega))
   ⟨w.heap.size, w.heap.size + 1, rfl, rfl, y1, y2, .inl rfl, .inr rfl⟩
   (by
    rintro b (rfl | rfl)
    ·exact ⟨y1.lt, fun hm => by have := HH.out.lt _ hm; omega⟩
    ·exact ⟨y2.lt, fun hm => by have := HH.out.lt _ hm; omega⟩) hok.out hfit.out HLL.out)
  unfold px at HCH
  clear y1 y2
  go_wp2_with (first | (go_at_call 130; refine HCH.out.mono ?_; rintro e w7 ⟨rfl, hf7, N, hN, hd7⟩) | fail)
  go_ret
  rw [HE.out]
  refine ⟨rfl, (Fr.of_new hB4).step hf7 (fun _ _ h => h) (fun _ _ h => h), N, fun b hb => ?_, hd7⟩
  rcases hN b hb with h | (h | h) | h
  ·exact .inl h
  ·subst h; right; omega
  ·subst h; right; omega
  ·have := hB4.size; right; omega
theorem Runs.at {room : Int} {l : Fls} {cs : List Chg} (h : Runs room l cs) (k : Nat) (hk : k < cs.length) : cs[k].okIn (gone (cs.take k) l) ∧ (Dk.sum (gone (cs.take k) l) : Int) ≤ room ∧ (Dk.sum (cs[k].does (gone (cs.take k) l)) : Int) ≤ room := by
 have h1 := h.drop k
 rw [List.drop_eq_getElem_cons hk] at h1
 exact ⟨h1.2.1, h1.1, h1.2.2.first⟩
end Go.Proofs.YtpkijdkoiecpiaaGreatDoor
