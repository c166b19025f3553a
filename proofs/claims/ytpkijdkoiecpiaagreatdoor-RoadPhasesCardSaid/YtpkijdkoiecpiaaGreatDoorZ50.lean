/-
  Parts of the proof: PQ PR PS PN.
-/
import Derived.Test.YtpkijdkoiecpiaaGreatDoorZ17
import Derived.Test.YtpkijdkoiecpiaaGreatDoorZ33
import Derived.Test.YtpkijdkoiecpiaaGreatDoorZ46
import Derived.Test.YtpkijdkoiecpiaaGreatDoorZ49
namespace Go.Proofs.YtpkijdkoiecpiaaGreatDoor
open Go.RowKit
set_option linter.unusedVariables false
set_option linter.unusedSimpArgs false
structure Env (w : World) : Prop where
 h0 : 0 < w.heap.size
 ml : ∃ m, w.cell? ⟨0, 0, none⟩ = some (.int .i64 m)
theorem Env.keep {w w' : World} (h : Env w) (hb : Below w.heap.size w w') : Env w' :=
 ⟨Nat.lt_of_lt_of_le h.h0 hb.size, let ⟨m, hm⟩ := h.ml; ⟨m, (hb.cell (p := ⟨0, 0, none⟩) h.h0).trans hm⟩⟩
theorem Env.fr {S : Nat → Prop} {w w' : World} (h : Env w) (hf : Fr S w w') (hS : ¬ S 0) : Env w' :=
 ⟨Nat.lt_of_lt_of_le h.h0 hf.size, let ⟨m, hm⟩ := h.ml; ⟨m, (World.cell?_of_block (hf.block 0 h.h0 hS)).trans hm⟩⟩
theorem sumsParse_c (w : World) (h : Env w) : Calls Tryz.prog 126 #[.string sumsB] w fun e w' =>
  ∃ a c, e = .returned (.tuple #[.agg #[.int .i64 2, .slice a 3 c], .int .i64 0, .int .i64 0]) ∧ NodesIn w' (fun b => w.heap.size ≤ b ∧ b < w'.heap.size) sumsJ.nodes (.slice a 3 c) ∧ Below w.heap.size w w' := by
 obtain ⟨m, hm⟩ := h.ml
 have := sParseIn_c sumsB m w (by decide) h.h0 hm
 rw [sums_parse] at this
 refine this.mono ?_
 rintro e w' ⟨sv, rfl, hn, hb⟩
 obtain ⟨a, c, rfl, _, _⟩ := hn.slice
 exact ⟨a, c, rfl, hn, hb⟩
set_option maxRecDepth 100000 in
set_option maxHeartbeats 1000000 in
theorem made_c (w : World) (h : Env w) : Calls Tryz.prog 67 #[.string sumsB] w fun e w' =>
  ∃ a c, e = .returned (.agg #[.int .i64 2, .slice a 3 c]) ∧ NodesIn w' (fun b => w.heap.size ≤ b ∧ b < w'.heap.size) sumsJ.nodes (.slice a 3 c) ∧ Below w.heap.size w w' := by
 have hA := (Below.refl w.heap.size w).alloc (Nat.le_refl _) (.cells #[.int .i64 0, .slice none 0 0] 26)
 have hr := Blk.new w #[.int .i64 0, .slice none 0 0] 26
 have HP := Lib.hid (sumsParse_c _ (h.keep hA))
 clear h
 go_enter Tryz.func67, Tryz.ntmps67
 go_upto_region 1 with fail
 have hz : (w.alloc (.cells #[.int .i64 0, .slice none 0 0] 26)).heap.size = w.heap.size + 1 := by simp
 generalize World.alloc w _ = W at *
 go_upto_region 2 with (first | (go_at_call 126; refine HP.out.mono ?_; rintro e w2 ⟨a, c, rfl, hn, hb⟩) | fail)
 have hr2 := (hr.below hb hr.lt).alloc (.cells #[.int .i64 2, .slice a 3 c] 26)
 have hx2 := Blk.new w2 #[.int .i64 2, .slice a 3 c] 26
 have hB2 := (hA.trans (hb.mono hA.size)).alloc (Nat.le_trans hA.size hb.size) (.cells #[.int .i64 2, .slice a 3 c] 26)
 have hN2 := hn.keep (Q := fun b => w.heap.size < b ∧ b < (w2.alloc (.cells #[.int .i64 2, .slice a 3 c] 26)).heap.size) (fun b k => ⟨by omega, by simp; omega⟩) (fun b k => alloc_old w2 (.cells #[.int .i64 2, .slice a 3 c] 26) b k.2)
 generalize World.alloc w2 _ = W3 at *
 have x0 := hx2.cell 0
 have x1 := hx2.cell 1
 have r0 := hr2.cell 0
 have r1 := hr2.cell 1
 have q0 := hr2.free 0
 have q1 := hr2.free 1
 have HR := Lib.hid ((hr2.set 0 (.int .i64 2)).set 1 (.slice a 3 c))
 clear hr hr2 hx2 hA hb HP hn
 go_wp2_with fail
 refine bodyPost_ret (v := .agg #[.int .i64 2, .slice a 3 c]) (results_cell_row rfl _ _ w.heap.size 26 _ (0, 0) _ rfl HR.out Tryz.underlying26 rfl ?_) rfl ⟨a, c, rfl, ?_, ?_⟩
 ·kernel_rfl
 ·exact hN2.keep (fun b k => ⟨by omega, by simpa using k.2⟩) (fun b k => (heap_setCell_other _ ⟨w.heap.size, 1, none⟩ b _ (by show b ≠ w.heap.size; omega)).trans (heap_setCell_other _ ⟨w.heap.size, 0, none⟩ b _ (by show b ≠ w.heap.size; omega)))
 ·exact (hB2.setCell (p := ⟨w.heap.size, 0, none⟩) (Nat.le_refl _) _).setCell (p := ⟨w.heap.size, 1, none⟩) (Nat.le_refl _) _
set_option maxRecDepth 100000 in
set_option maxHeartbeats 1000000 in
theorem start_c (w : World) (h : Env w) : Calls Tryz.prog 25 #[] w fun e w' =>
  ∃ a c, e = .returned (.agg #[.int .u8 1, .int .i64 2, .int .i64 3, .int .i64 5, .int .i64 2, .slice a 3 c, .int .i64 0, .int .i64 0, .int .i64 0]) ∧ NodesIn w' (fun b => w.heap.size ≤ b ∧ b < w'.heap.size) sumsJ.nodes (.slice a 3 c) ∧ Below w.heap.size w w' := by
 have hA := (Below.refl w.heap.size w).alloc (Nat.le_refl _) (.cells #[.int .u8 0, .int .i64 0, .int .i64 0, .int .i64 0, .int .i64 0, .slice none 0 0, .int .i64 0, .int .i64 0, .int .i64 0] 29)
 have hr := Blk.new w #[.int .u8 0, .int .i64 0, .int .i64 0, .int .i64 0, .int .i64 0, .slice none 0 0, .int .i64 0, .int .i64 0, .int .i64 0] 29
 have HM := Lib.hid (made_c _ (h.keep hA))
 have hsz : (w.alloc (.cells #[.int .u8 0, .int .i64 0, .int .i64 0, .int .i64 0, .int .i64 0, .slice none 0 0, .int .i64 0, .int .i64 0, .int .i64 0] 29)).heap.size = w.heap.size + 1 := by simp
 clear h
 go_enter Tryz.func25, Tryz.ntmps25
 go_upto_region 1 with fail
 generalize World.alloc w _ = W at *
 go_wp2_with (first | (go_at_call 67; refine HM.out.mono ?_; rintro e w2 ⟨a, c, rfl, hn, hb⟩; have hr2 := hr.below hb hr.lt; have r0 := hr2.cell 0; have r1 := hr2.cell 1; have r2 := hr2.cell 2; have r3 := hr2.cell 3; have r4 := hr2.cell 4; have r5 := hr2.cell 5; have r6 := hr2.cell 6; have r7 := hr2.cell 7; have r8 := hr2.cell 8; have q0 := hr2.free 0; have q1 := hr2.free 1; have q2 := hr2.free 2; have q3 := hr2.free 3; have q4 := hr2.free 4; have q5 := hr2.free 5; have q6 := hr2.free 6; have q7 := hr2.free 7; have q8 := hr2.free 8) | fail)
 refine bodyPost_ret (v := .agg #[.int .u8 1, .int .i64 2, .int .i64 3, .int .i64 5, .int .i64 2, .slice a 3 c, .int .i64 0, .int .i64 0, .int .i64 0]) (results_cell_row rfl _ _ w.heap.size 29 _ (0, 0) _ rfl (Blk.set9 hr2 rfl _ _ _ _ _ _ _ _ _) Tryz.underlying29 rfl ?_) rfl ⟨a, c, rfl, ?_, ?_⟩
 ·kernel_rfl
 ·exact hn.keep (fun b k => ⟨by omega, by rw [size_set9]; exact k.2⟩) (fun b k => other_set9 (by omega) _ _ _ _ _ _ _ _ _)
 ·exact below_set9 (hA.trans (hb.mono hA.size)) (Nat.le_refl _) _ _ _ _ _ _ _ _ _
theorem begun_c (w : World) : Calls Tryz.prog 24 #[] w fun e w' =>
  ∃ R L D M P, e = .returned (px R) ∧ RoAt w' M P R L road0 D (Dk.new 5000) ∧ (∀ b, M b → w.heap.size ≤ b) ∧ (∀ b, P b → w.heap.size ≤ b) ∧ Below w.heap.size w w' := by
 have HN := Lib.hid (New_c 5000 w)
 have HO : Hid (∀ W D, DkAt W (· = D) D (Dk.new 5000) → Calls Tryz.prog 16 #[px D] W (OpenPost W (· = D) D (Dk.new 5000, some road0, 0))) := fun W D h => by
  have := roOpen_c W (· = D) D (Dk.new 5000) h (by decide)
  rw [Rdw.open_new] at this
  exact this
 unfold px at HO HN ⊢
 go_enter Tryz.func24, Tryz.ntmps24
 go_upto_region 2 with (first | (go_at_call 15; refine HN.out.mono ?_; rintro e w1 ⟨hb1, (⟨_, _, rfl, hd⟩ | ⟨hx, rfl⟩)⟩) | fail)
 ·have HO1 := Lib.hid (HO.out w1 _ hd)
  unfold OpenPost px at HO1
  go_wp2_with (first | (go_at_call 16; refine HO1.out.mono ?_; rintro e w2 (⟨e1, hx, _⟩ | ⟨r, R, L, N, P, hx, rfl, hf, hR, hN, hP⟩)) | fail)
  ·simp at hx
  ·simp only [Prod.mk.injEq, Option.some.injEq] at hx
   obtain ⟨rfl, _⟩ := hx
   go_ret
   refine ⟨R, L, w.heap.size, N, P, rfl, hR, fun b q => ?_, fun b q => Nat.le_trans hb1.size (hP b q), hb1.trans (hf.below hb1.size (fun k hk e => by omega))⟩
   rcases hN b q with h | h
   ·rw [h]; exact Nat.le_refl _
   ·exact Nat.le_trans hb1.size h
 ·omega
theorem roPutK (w : World) (M P : Nat → Prop) (R L : Nat) (r : Rdw) (D : Nat) (d : Dk) (h : RoAt w M P R L r D d) (x : St) (hok : x.Ok) (hj : x.job = ⟨0, []⟩) (hll : d.loose.length ≤ 1000000000) (q : Dk × Rdw × Int) (hq : Rdw.put d r x = q) (v : Value) (hv : v = .agg (stC x (.slice none 0 0))) :
  Calls Tryz.prog 19 #[px R, v] w fun e w' => e = .returned (.int .i64 q.2.2) ∧ RoTo w w' M P R L q.2.1 D q.1 := by
 subst hv hq
 exact roPut_c w M P R L r D d h x _ ⟨_, rfl, by rw [hj]; exact NodesIn.nil _ _⟩ hok hll
theorem roPutS (w : World) (M P Q : Nat → Prop) (R L : Nat) (r : Rdw) (D : Nat) (d : Dk) (h : RoAt w M P R L r D d) (a : Option Addr) (c : Nat) (hn : NodesIn w Q sumsJ.nodes (.slice a 3 c)) (hQ : ∀ b, Q b → b < w.heap.size ∧ ¬ M b) (hll : d.loose.length ≤ 1000000000) (q : Dk × Rdw × Int) (hq : Rdw.put d r startS = q) :
  Calls Tryz.prog 19 #[px R, .agg #[.int .u8 1, .int .i64 2, .int .i64 3, .int .i64 5, .int .i64 2, .slice a 3 c, .int .i64 0, .int .i64 0, .int .i64 0]] w fun e w' => e = .returned (.int .i64 q.2.2) ∧ RoTo w w' M (fun b => P b ∨ Q b) R L q.2.1 D q.1 := by
 subst hq
 exact roPut_c w M _ R L r D d (h.more (fun b k => .inl k) (fun b k => by
  rcases k with k | k
  ·exact h.dis b k
  ·exact hQ b k)) startS _ ⟨_, rfl, hn.mono fun b k => .inr k⟩ start_ok hll
theorem hM_step {M N : Nat → Prop} {n m : Nat} (hN : ∀ b, N b → M b ∨ m ≤ b) (hM : ∀ b, M b → n ≤ b) (h : n ≤ m) : ∀ b, N b → n ≤ b := fun b q => by
 rcases hN b q with e | e
 ·exact hM b e
 ·exact Nat.le_trans h e
set_option maxRecDepth 100000 in
set_option maxHeartbeats 2000000 in
theorem roWorks_c (w : World) (h : Env w) : Calls Tryz.prog 14 #[] w fun e w' => e = .returned (.bool true) ∧ Below w.heap.size w w' := by
 have HB := Lib.hid (begun_c w)
 have HS : Hid (∀ W, Env W → _) := fun W (h : Env W) => start_c W h
 have HE := Lib.hid h
 have HK1 : Hid (∀ W M P R L D, RoAt W M P R L road0 D (Dk.new 5000) → Calls Tryz.prog 19 #[px R, .agg #[.int .u8 2, .int .i64 0, .int .i64 0, .int .i64 0, .int .i64 0, .slice none 0 0, .int .i64 0, .int .i64 0, .int .i64 0]] W fun e w' => e = .returned (.int .i64 261) ∧ RoTo W w' M P R L road0 D (Dk.new 5000)) :=
  fun W M P R L D h => roPutK W M P R L road0 D (Dk.new 5000) h (kindS 2) (kind_ok 2 (by decide)) rfl (by decide) _ putM_e _ rfl
 have HK2 : Hid (∀ W M P Q R L D a c, RoAt W M P R L road0 D (Dk.new 5000) → NodesIn W Q sumsJ.nodes (.slice a 3 c) → (∀ b, Q b → b < W.heap.size ∧ ¬ M b) → Calls Tryz.prog 19 #[px R, .agg #[.int .u8 1, .int .i64 2, .int .i64 3, .int .i64 5, .int .i64 2, .slice a 3 c, .int .i64 0, .int .i64 0, .int .i64 0]] W fun e w' => e = .returned (.int .i64 0) ∧ RoTo W w' M (fun b => P b ∨ Q b) R L put0.2.1 D put0.1) :=
  fun W M P Q R L D a c h hn hQ => by
   have := roPutS W M P Q R L road0 D (Dk.new 5000) h a c hn hQ (by decide) put0 rfl
   rw [put0_e] at this
   exact this
 have HPH : Hid (∀ W M P R L D, RoAt W M P R L put0.2.1 D put0.1 → Calls Tryz.prog 17 #[px R] W fun e w' => e = .returned (.int .u8 1) ∧ W = w') := fun W M P R L D h => by
  have := roPhase_c h
  rw [put0_p] at this
  exact this
 have HK3 : Hid (∀ W M P R L D, RoAt W M P R L put0.2.1 D put0.1 → Calls Tryz.prog 19 #[px R, .agg #[.int .u8 2, .int .i64 0, .int .i64 0, .int .i64 0, .int .i64 0, .slice none 0 0, .int .i64 0, .int .i64 0, .int .i64 0]] W fun e w' => e = .returned (.int .i64 0) ∧ RoTo W w' M P R L put1.2.1 D put1.1) :=
  fun W M P R L D h => by
   have := roPutK W M P R L put0.2.1 D put0.1 h (kindS 2) (kind_ok 2 (by decide)) rfl (by rw [put0_l]; decide) put1 rfl (.agg #[.int .u8 2, .int .i64 0, .int .i64 0, .int .i64 0, .int .i64 0, .slice none 0 0, .int .i64 0, .int .i64 0, .int .i64 0]) rfl
   rw [put1_e] at this
   exact this
 unfold px at HB HK1 HK2 HK3 HPH
 clear h
 go_enter Tryz.func14, Tryz.ntmps14
 go_wp2_with (first
  | (go_at_call 24; refine HB.out.mono ?_; rintro e w1 ⟨R, L, D, M, P, rfl, hR, hM, hP, hb1⟩; have T1 := Lib.hid hR; clear hR)
  | (go_at_call 19; refine (HK1.out _ _ _ _ _ _ T1.out).mono ?_; rintro e w2 ⟨rfl, hT⟩; obtain ⟨hf2, N2, hN2, hR2⟩ := hT; have T2 := Lib.hid hR2; clear T1 hR2; have hb2 := hb1.trans (hf2.below hb1.size (fun k hk e => by have := hM k e; omega)); have hE2 := HE.out.keep hb2; have hM2 := hM_step hN2 hM hb1.size)
  | (go_at_call 25; refine (HS.out w2 hE2).mono ?_; rintro e w3 ⟨a, c, rfl, hn, hb3⟩; have T3 := Lib.hid (T2.out.below hb3); have hB3 := hb2.trans (hb3.mono hb2.size); have hQ3 : ∀ b, (w2.heap.size ≤ b ∧ b < w3.heap.size) → b < w3.heap.size ∧ ¬ N2 b := fun b q => ⟨q.2, fun hm => by have := T2.out.lt b hm; omega⟩)
  | (go_at_call 19; refine (HK2.out _ _ _ _ _ _ _ _ _ T3.out hn hQ3).mono ?_; rintro e w4 ⟨rfl, hT⟩; obtain ⟨hf4, N4, hN4, hR4⟩ := hT; have T4 := Lib.hid hR4; clear T3 hR4; have hb4 := hB3.trans (hf4.below hB3.size (fun k hk e => by have := hM2 k e; omega)); have hM4 := hM_step hN4 hM2 hB3.size)
  | (go_at_call 17; refine (HPH.out _ _ _ _ _ _ T4.out).mono ?_; rintro e w5 ⟨rfl, rfl⟩)
  | (go_at_call 19; refine (HK3.out _ _ _ _ _ _ T4.out).mono ?_; rintro e w6 ⟨rfl, hT⟩; obtain ⟨hf6, N6, hN6, hR6⟩ := hT)
  | fail)
 go_ret
 exact ⟨rfl, hb4.trans (hf6.below hb4.size (fun k hk e => by have := hM4 k e; omega))⟩
def RS (w W : World) (R L D : Nat) (r : Rdw) (d : Dk) : Prop := ∃ M P : Nat → Prop, RoAt W M P R L r D d ∧ (∀ b, M b → w.heap.size ≤ b) ∧ Below w.heap.size w W
namespace RS
variable {w W W' : World} {R L D : Nat} {r : Rdw} {d : Dk}
theorem below (h : RS w W R L D r d) : Below w.heap.size w W := let ⟨_, _, _, _, h3⟩ := h; h3
theorem keep (h : RS w W R L D r d) (hb : Below W.heap.size W W') : RS w W' R L D r d := let ⟨M, P, h1, h2, h3⟩ := h; ⟨M, P, h1.below hb, h2, h3.trans (hb.mono h3.size)⟩
theorem alloc (h : RS w W R L D r d) (o : Obj) : RS w (W.alloc o) R L D r d := h.keep ((Below.refl _ _).alloc (Nat.le_refl _) _)
theorem box {o : Obj} (h : RS w W R L D r d) (hb : Below (W.alloc o).heap.size (W.alloc o) W') : RS w W' R L D r d := (h.alloc o).keep hb
theorem of_to {M P : Nat → Prop} (hM : ∀ b, M b → w.heap.size ≤ b) (hB : Below w.heap.size w W) (hT : RoTo W W' M P R L r D d) : RS w W' R L D r d := by
 obtain ⟨hf, N, hN, hR⟩ := hT
 refine ⟨N, P, hR, fun b q => ?_, hB.trans (hf.below hB.size (fun k hk e => by have := hM k e; omega))⟩
 rcases hN b q with h | h
 ·exact hM b h
 ·exact Nat.le_trans hB.size h
theorem phase_c (h : RS w W R L D r d) : Calls Tryz.prog 17 #[px R] W fun e w' => e = .returned (.int .u8 (r.phase : Int)) ∧ W = w' := let ⟨_, _, h1, _, _⟩ := h; roPhase_c h1
theorem len_c (h : RS w W R L D r d) : Calls Tryz.prog 18 #[px R] W fun e w' => e = .returned (.int .i64 (r.l.length : Int)) ∧ W = w' := let ⟨_, _, h1, _, _⟩ := h; roLen_c h1
theorem put_c (h : RS w W R L D r d) (x : St) (v : Value) (hv : StIn W (· < w.heap.size) v x) (hok : x.Ok) (hll : d.loose.length ≤ 1000000000) (q : Dk × Rdw × Int) (hq : Rdw.put d r x = q) :
  Calls Tryz.prog 19 #[px R, v] W fun e w' => e = .returned (.int .i64 q.2.2) ∧ RS w w' R L D q.2.1 q.1 := by
 obtain ⟨M, P, h1, h2, h3⟩ := h
 subst hq
 refine (roPut_c W M (fun b => P b ∨ b < w.heap.size) R L r D d (h1.more (fun b k => .inl k) (fun b k => ?_)) x v (hv.keep (fun b k => .inr k) (fun _ _ => rfl)) hok hll).mono ?_
 ·rcases k with k | k
  ·exact h1.dis b k
  ·exact ⟨Nat.lt_of_lt_of_le k h3.size, fun hm => by have := h2 b hm; omega⟩
 ·rintro e w' ⟨rfl, hT⟩
  exact ⟨rfl, of_to h2 h3 hT⟩
theorem putN_c (h : RS w W R L D r d) (hb : Below W.heap.size W W') (x : St) (sv : Value) (hn : NodesIn W' (fun b => W.heap.size ≤ b ∧ b < W'.heap.size) x.job.nodes sv) (hok : x.Ok) (hll : d.loose.length ≤ 1000000000) (q : Dk × Rdw × Int) (hq : Rdw.put d r x = q) :
  Calls Tryz.prog 19 #[px R, .agg (stC x sv)] W' fun e w' => e = .returned (.int .i64 q.2.2) ∧ RS w w' R L D q.2.1 q.1 := by
 obtain ⟨M, P, h1, h2, h3⟩ := h
 subst hq
 have h4 := h1.below hb
 refine (roPut_c W' M (fun b => P b ∨ (W.heap.size ≤ b ∧ b < W'.heap.size)) R L r D d (h4.more (fun b k => .inl k) (fun b k => ?_)) x _ ⟨sv, rfl, hn.keep (fun b k => .inr k) (fun _ _ => rfl)⟩ hok hll).mono ?_
 ·rcases k with k | k
  ·exact h4.dis b k
  ·exact ⟨k.2, fun hm => by have := h1.lt b hm; omega⟩
 ·rintro e w' ⟨rfl, hT⟩
  exact ⟨rfl, of_to h2 (h3.trans (hb.mono h3.size)) hT⟩
theorem start_c (h : RS w W R L D r d) (hp : r.phase = 0) : Calls Tryz.prog 22 #[px R] W fun e w' => e = .returned (.tuple #[.agg (stC (stOf 0 [] ⟨0, []⟩) (.slice none 0 0)), .bool false]) ∧ RS w w' R L D r d := by
 obtain ⟨M, P, h1, h2, h3⟩ := h
 refine (roStart_idle h1 hp).mono ?_
 rintro e w' ⟨rfl, hb⟩
 exact ⟨rfl, M, P, h1.below hb, h2, h3.trans (hb.mono h3.size)⟩
end RS
set_option maxRecDepth 100000 in
set_option maxHeartbeats 4000000 in
theorem roKnown_c (w : World) (h : Env w) : Calls Tryz.prog 5 #[] w fun e w' => e = .returned (.bool true) ∧ Below w.heap.size w w' := by
 have HB : Hid (Calls Tryz.prog 24 #[] w fun e w' => ∃ R L D, e = .returned (px R) ∧ RS w w' R L D road0 (Dk.new 5000)) := (begun_c w).mono (by
  rintro e w' ⟨R, L, D, M, P, rfl, h1, h2, h3, h4⟩
  exact ⟨R, L, D, rfl, M, P, h1, h2, h4⟩)
 have HS : Hid (∀ W, Below w.heap.size w W → _) := fun W hb => start_c W (h.keep hb)
 have HW : Hid (∀ W, Below w.heap.size w W → _) := fun W hb => roWorks_c W (h.keep hb)
 have HQ1 : Hid (∀ W W' R L D a c, RS w W R L D road0 (Dk.new 5000) → Below W.heap.size W W' → NodesIn W' (fun b => W.heap.size ≤ b ∧ b < W'.heap.size) sumsJ.nodes (.slice a 3 c) → Calls Tryz.prog 19 #[px R, .agg #[.int .u8 1, .int .i64 2, .int .i64 3, .int .i64 5, .int .i64 2, .slice a 3 c, .int .i64 0, .int .i64 0, .int .i64 0]] W' fun e w' => e = .returned (.int .i64 0) ∧ RS w w' R L D put0.2.1 put0.1) :=
  fun W W' R L D a c h hb hn => by
   have := h.putN_c hb startS _ hn start_ok (by decide) put0 rfl
   rw [put0_e] at this
   exact this
 have HQ2 : Hid (∀ W R L D, RS w W R L D put0.2.1 put0.1 → Calls Tryz.prog 19 #[px R, .agg #[.int .u8 2, .int .i64 0, .int .i64 0, .int .i64 0, .int .i64 0, .slice none 0 0, .int .i64 0, .int .i64 0, .int .i64 0]] W fun e w' => e = .returned (.int .i64 0) ∧ RS w w' R L D put1.2.1 put1.1) := fun W R L D h => by
   have := h.put_c (kindS 2) (.agg (stC (kindS 2) (.slice none 0 0))) ⟨_, rfl, NodesIn.nil _ _⟩ (kind_ok 2 (by decide)) (by rw [put0_l]; decide) put1 rfl
   rw [put1_e] at this
   exact this
 have HQ3 : Hid (∀ W R L D, RS w W R L D put1.2.1 put1.1 → Calls Tryz.prog 19 #[px R, .agg #[.int .u8 4, .int .i64 0, .int .i64 0, .int .i64 0, .int .i64 0, .slice none 0 0, .int .i64 0, .int .i64 0, .int .i64 0]] W fun e w' => e = .returned (.int .i64 0) ∧ RS w w' R L D put2.2.1 put2.1) := fun W R L D h => by
   have := h.put_c (kindS 4) (.agg (stC (kindS 4) (.slice none 0 0))) ⟨_, rfl, NodesIn.nil _ _⟩ (kind_ok 4 (by decide)) (by rw [put1_l]; decide) put2 rfl
   rw [put2_e] at this
   exact this
 have HQ4 : Hid (∀ W R L D, RS w W R L D put2.2.1 put2.1 → Calls Tryz.prog 19 #[px R, .agg #[.int .u8 6, .int .i64 0, .int .i64 0, .int .i64 0, .int .i64 0, .slice none 0 0, .int .i64 0, .int .i64 0, .int .i64 0]] W fun e w' => e = .returned (.int .i64 2) ∧ RS w w' R L D put2.2.1 put2.1) := fun W R L D h => by
   have := h.put_c (rejS 0) (.agg (stC (rejS 0) (.slice none 0 0))) ⟨_, rfl, NodesIn.nil _ _⟩ (rej_ok 0 i64_0) (by rw [put2_l]; decide) _ putR_e
   exact this
 have HQ5 : Hid (∀ W R L D, RS w W R L D put2.2.1 put2.1 → Calls Tryz.prog 19 #[px R, .agg #[.int .u8 6, .int .i64 0, .int .i64 0, .int .i64 0, .int .i64 0, .slice none 0 0, .int .i64 0, .int .i64 0, .int .i64 121]] W fun e w' => e = .returned (.int .i64 0) ∧ RS w w' R L D put3.2.1 put3.1) := fun W R L D h => by
   have := h.put_c (rejS 121) (.agg (stC (rejS 121) (.slice none 0 0))) ⟨_, rfl, NodesIn.nil _ _⟩ (rej_ok 121 ⟨by decide, by decide⟩) (by rw [put2_l]; decide) put3 rfl
   rw [put3_e] at this
   exact this
 have HPH : Hid (∀ W R L D, RS w W R L D put2.2.1 put2.1 → Calls Tryz.prog 17 #[px R] W fun e w' => e = .returned (.int .u8 0) ∧ W = w') := fun W R L D h => by
   have := h.phase_c
   rw [put2_p] at this
   exact this
 have HST : Hid (∀ W R L D, RS w W R L D put3.2.1 put3.1 → Calls Tryz.prog 22 #[px R] W fun e w' => e = .returned (.tuple #[.agg (stC (stOf 0 [] ⟨0, []⟩) (.slice none 0 0)), .bool false]) ∧ RS w w' R L D put3.2.1 put3.1) := fun W R L D h => h.start_c put3_p
 have HLN : Hid (∀ W R L D, RS w W R L D put3.2.1 put3.1 → Calls Tryz.prog 18 #[px R] W fun e w' => e = .returned (.int .i64 4) ∧ W = w') := fun W R L D h => by
   have := h.len_c
   rw [put3_n] at this
   exact this
 have HNA : Hid (∀ W, Calls Tryz.prog 26 #[.pointer none, .int .i64 0] W fun e w' => e = .returned (.tuple #[.agg (stC (stOf 0 [] ⟨0, []⟩) (.slice none 0 0)), .int .i64 1]) ∧ Below W.heap.size W w') := fun W => roAt_nil 0 W
 have HNS := Lib.hid (fun W => roStart_nil W)
 have HNO := Lib.hid (fun W => roOpen_nil W)
 have HNP : Hid (∀ W a c, Calls Tryz.prog 19 #[.pointer none, .agg #[.int .u8 1, .int .i64 2, .int .i64 3, .int .i64 5, .int .i64 2, .slice a 3 c, .int .i64 0, .int .i64 0, .int .i64 0]] W fun e w' => e = .returned (.int .i64 1) ∧ Below W.heap.size W w') := fun W a c => roPut_nil startS (.slice a 3 c) W
 have HNH := Lib.hid (fun W => roPhase_nil W)
 have HNL := Lib.hid (fun W => roLen_nil W)
 unfold px at HB HQ1 HQ2 HQ3 HQ4 HQ5 HPH HST HLN
 clear h
 go_enter Tryz.func5, Tryz.ntmps5
 go_upto_region 4 with (first
  | (go_at_call 24; refine HB.out.mono ?_; rintro e w1 ⟨R, L, D, rfl, hR⟩; have T1 := Lib.hid hR; clear hR)
  | (go_at_call 14; refine (HW.out w1 T1.out.below).mono ?_; rintro e w2 ⟨rfl, hb2⟩; have T2 := Lib.hid (T1.out.keep hb2); clear T1)
  | (go_at_call 25; refine (HS.out w2 T2.out.below).mono ?_; rintro e w3 ⟨a, c, rfl, hn, hb3⟩; have tok3 := hn)
  | (go_at_call 19; refine (HQ1.out _ _ _ _ _ _ _ T2.out hb3 tok3).mono ?_; rintro e w4 ⟨rfl, hT⟩; have T4 := Lib.hid hT; clear T2 hT tok3)
  | (go_at_call 19; refine (HQ2.out _ _ _ _ T4.out).mono ?_; rintro e w5 ⟨rfl, hT⟩; have T5 := Lib.hid hT; clear T4 hT)
  | (go_at_call 19; refine (HQ3.out _ _ _ _ T5.out).mono ?_; rintro e w6 ⟨rfl, hT⟩; have T6 := Lib.hid hT; clear T5 hT)
  | (go_at_call 17; refine (HPH.out _ _ _ _ T6.out).mono ?_; rintro e w7 ⟨rfl, rfl⟩)
  | (go_at_call 19; refine (HQ4.out _ _ _ _ T6.out).mono ?_; rintro e w8 ⟨rfl, hT⟩; have T8 := Lib.hid hT; clear T6 hT)
  | (go_at_call 19; refine (HQ5.out _ _ _ _ T8.out).mono ?_; rintro e w9 ⟨rfl, hT⟩; have T9 := Lib.hid hT; clear T8 hT)
  | fail)
 clear HB HQ1 HQ2 HQ3 HQ4 HQ5 HPH HW
 go_wp2_with (first
  | (go_at_call 22; refine (HST.out _ _ _ _ T9.out).mono ?_; rintro e w10 ⟨rfl, hT⟩; have T10 := Lib.hid hT; clear T9 hT; unfold stC)
  | (go_at_call 26; refine (HNA.out _).mono ?_; rintro e w11 ⟨rfl, hb11⟩; have T11 := Lib.hid (T10.out.box hb11); clear hb11 T10; unfold stC)
  | (go_at_call 22; refine (HNS.out _).mono ?_; rintro e w12 ⟨rfl, hb12⟩; have T12 := Lib.hid (T11.out.box hb12); clear hb12 T11; unfold stC)
  | (go_at_call 16; refine (HNO.out _).mono ?_; rintro e w13 ⟨rfl, rfl⟩)
  | (go_at_call 18; refine (HLN.out _ _ _ _ (T12.out.alloc _)).mono ?_; rintro e w14 ⟨rfl, rfl⟩)
  | (go_at_call 25; refine (HS.out _ (T12.out.alloc _).below).mono ?_; rintro e w15 ⟨a5, c5, rfl, hn5, hb15⟩; have T15 := Lib.hid (T12.out.box hb15); clear hn5 hb15 T12)
  | (go_at_call 19; refine (HNP.out _ _ _).mono ?_; rintro e w16 ⟨rfl, hb16⟩; have T16 := Lib.hid (T15.out.keep hb16); clear T15)
  | (go_at_call 17; refine (HNH.out _).mono ?_; rintro e w17 ⟨rfl, rfl⟩)
  | (go_at_call 18; refine (HNL.out _).mono ?_; rintro e w18 ⟨rfl, rfl⟩)
  | fail)
 go_ret
 exact ⟨rfl, T16.out.below⟩
section
open Go.RowKit Go.ChangeShapes Go.WideShapes
theorem cellsStep : Tryz.prog.cellsOf 29 = 9 := by kernel_rfl
section
variable {H : Type} {enc : TypeId × Value → H} {w : World}
set_option maxRecDepth 100000 in
theorem open_step9 (m : Nat) (c0 c1 c2 c3 c4 c5 c6 c7 c8 : Value) (y : DataW H × List MemPlace) (h : DataW.trod enc Tryz.prog w 0 (fun _ => true) true m 29 [c0, c1, c2, c3, c4, c5, c6, c7, c8] = some y) :
  ∃ (x : St) (sv : Value), [c0, c1, c2, c3, c4, c5, c6, c7, c8] = (stC x sv).toList ∧ NodesAt w w.heap.size x.job.nodes sv ∧ x.Ok := by
 obtain ⟨xs, m1, hm2, _, _, hxl, hfs⟩ := DataW.trod_struct Tryz.underlying29 h
 have q0 := hfs 0 _ rfl
 have q1 := hfs 1 _ rfl
 have q2 := hfs 2 _ rfl
 have q3 := hfs 3 _ rfl
 have q4 := hfs 4 _ rfl
 have q5 := hfs 5 _ rfl
 have q6 := hfs 6 _ rfl
 have q7 := hfs 7 _ rfl
 have hxl : xs.length = 8 := by assumption
 obtain ⟨y0, y1, y2, y3, y4, y5, y6, y7, rfl⟩ : ∃ y0 y1 y2 y3 y4 y5 y6 y7, xs = [y0, y1, y2, y3, y4, y5, y6, y7] := by
  match xs, hxl with
  | [y0, y1, y2, y3, y4, y5, y6, y7], _ => exact ⟨y0, y1, y2, y3, y4, y5, y6, y7, rfl⟩
 have e0 : DataW.trod enc Tryz.prog w 0 (fun _ => true) true m1 5 [c0] = some y0 := q0
 have e1 : DataW.trod enc Tryz.prog w 0 (fun _ => true) true m1 2 [c1] = some y1 := q1
 have e2 : DataW.trod enc Tryz.prog w 0 (fun _ => true) true m1 2 [c2] = some y2 := q2
 have e3 : DataW.trod enc Tryz.prog w 0 (fun _ => true) true m1 2 [c3] = some y3 := q3
 have e4 : DataW.trod enc Tryz.prog w 0 (fun _ => true) true m1 26 [c4, c5] = some y4 := q4
 have e5 : DataW.trod enc Tryz.prog w 0 (fun _ => true) true m1 3 [c6] = some y5 := q5
 have e6 : DataW.trod enc Tryz.prog w 0 (fun _ => true) true m1 3 [c7] = some y6 := q6
 have e7 : DataW.trod enc Tryz.prog w 0 (fun _ => true) true m1 27 [c8] = some y7 := q7
 obtain ⟨k0, h0, _, w0⟩ := DataW.trod_int Tryz.underlying5 e0
 obtain ⟨k1, h1, _, w1⟩ := DataW.trod_int Tryz.underlying2 e1
 obtain ⟨k2, h2, _, w2⟩ := DataW.trod_int Tryz.underlying2 e2
 obtain ⟨k3, h3, _, w3⟩ := DataW.trod_int Tryz.underlying2 e3
 obtain ⟨k5, h5, _, w5⟩ := DataW.trod_int Tryz.underlying3 e5
 obtain ⟨k6, h6, _, w6⟩ := DataW.trod_int Tryz.underlying3 e6
 obtain ⟨k7, h7, _, w7⟩ := DataW.trod_int Tryz.underlying27 e7
 obtain ⟨zs, m2, _, _, _, hzl, hgs⟩ := DataW.trod_struct Tryz.underlying26 e4
 have p0 := hgs 0 _ rfl
 have p1 := hgs 1 _ rfl
 have hzl : zs.length = 2 := by assumption
 obtain ⟨z0, z1, rfl⟩ : ∃ z0 z1, zs = [z0, z1] := by
  match zs, hzl with
  | [z0, z1], _ => exact ⟨z0, z1, rfl⟩
 have f0 : DataW.trod enc Tryz.prog w 0 (fun _ => true) true m2 3 [c4] = some z0 := p0
 have f1 : DataW.trod enc Tryz.prog w 0 (fun _ => true) true m2 24 [c5] = some z1 := p1
 obtain ⟨k4, h4, _, w4⟩ := DataW.trod_int Tryz.underlying3 f0
 obtain ⟨l, hl1, hl2⟩ := open_nodes m2 c5 z1 f1
 simp only [List.cons.injEq, and_true] at h0 h1 h2 h3 h4 h5 h6 h7
 subst h0 h1 h2 h3 h4 h5 h6 h7
 have r0 := wf_u8r w0
 have r4 := wf_i64r w4
 obtain ⟨n, rfl⟩ : ∃ n : Nat, k0 = (n : Int) := ⟨k0.toNat, by omega⟩
 exact ⟨⟨n, k1, k2, k3, ⟨k4, l⟩, k5, k6, k7⟩, c5, rfl, hl1, by show n < 256; omega, wf_i64r w1, wf_i64r w2, wf_i64r w3, ⟨r4.1, r4.2, hl2⟩, wf_i64r w5, wf_i64r w6, wf_i64r w7⟩
set_option maxRecDepth 100000 in
theorem open_stepRow (fuel : Nat) (sv : Value) (x : DataW H × List MemPlace) (h : DataW.trod enc Tryz.prog w 0 (fun _ => true) true fuel 22 [sv] = some x) :
  ∃ l : List St, StsRd w (· < w.heap.size) sv l ∧ (∀ x ∈ l, x.Ok) ∧ (l.length = 0 ∨ ∃ es sp, x.1 = .slice es sp ∧ es.length = l.length) := by
 rcases DataW.trod_slice Tryz.underlying22 h with ⟨h0, _⟩ | ⟨a, len, cap, elems, rest, n, hf, hcs, hx, hb, hl, hm, hlen, hel, _, _⟩
 ·simp only [List.cons.injEq, and_true] at h0
  subst h0
  exact ⟨[], ⟨none, 0, rfl, Nat.zero_le _, Nat.zero_le _, .inl rfl⟩, by simp, .inl rfl⟩
 ·simp only [List.cons.injEq, and_true] at hcs
  subst hcs
  rw [cellsStep] at hel
  have hex : ∀ i, i < len → ∃ (y : St) (sv : Value), (∀ j, j < 9 → w.cell? (a.add (i * 9 + j)) = (stC y sv)[j]?) ∧ NodesAt w w.heap.size y.job.nodes sv ∧ y.Ok := by
   intro i hi
   have hi2 : i < elems.length := by omega
   have h1 := hel i hi
   rw [List.getElem?_eq_getElem hi2] at h1
   obtain ⟨cs, h2, h3⟩ := Option.bind_eq_some_iff.1 h1
   obtain ⟨_, hcl, hcell⟩ := World.cells?_some h2
   match cs, hcl with
   | [c0, c1, c2, c3, c4, c5, c6, c7, c8], _ =>
    obtain ⟨y, sv, hy, hn, hok⟩ := open_step9 _ c0 c1 c2 c3 c4 c5 c6 c7 c8 _ h3
    refine ⟨y, sv, fun j hj => ?_, hn, hok⟩
    have g := hcell j (by omega)
    rw [Go.Deep.add_add, hy] at g
    rw [g, Array.getElem?_toList]
  by_cases h0 : len = 0
  ·subst h0
   exact ⟨[], ⟨_, cap, rfl, Nat.zero_le _, hm, .inl rfl⟩, by simp, .inl rfl⟩
  ·obtain ⟨Y, hY⟩ := @Go.Deep.choose_lt St ⟨⟨0, 0, 0, 0, ⟨0, []⟩, 0, 0, 0⟩⟩ len _ hex
   obtain ⟨V, hV⟩ := Go.Deep.choose_lt hY
   have h00 : w.cell? a = some (.int .u8 ((Y 0).kind : Int)) := by
    have := (hV 0 (by omega)).1 0 (by omega)
    simpa [Addr.add, stC] using this
   obtain ⟨b, off, rfl⟩ : ∃ b off, a = ⟨b, off, none⟩ := ⟨_, _, add_spot h00⟩
   have hlt : b < w.heap.size := World.block_lt_of_cell? _ _ h00
   refine ⟨(List.range len).map Y, ⟨some ⟨b, off, none⟩, cap, by simp, by simpa using hl, hm, .inr ⟨b, off, rfl, hlt, fun j hj => ?_⟩⟩, ?_, .inr ⟨_, _, by rw [hx], by simpa using hlen⟩⟩
   ·have hj' : j < len := by simpa using hj
    obtain ⟨hc, hn, _⟩ := hV j hj'
    have hg : ((List.range len).map Y)[j]'hj = Y j := by simp
    rw [hg]
    refine ⟨V j, NodesIn.of_at hn, fun k hk => ?_⟩
    have := hc k hk
    rw [addr_add, ← Nat.add_assoc] at this
    exact this
   ·intro z hz
    obtain ⟨i, hi, rfl⟩ := List.mem_map.1 hz
    exact (hV i (by simpa using hi)).2.2
set_option maxRecDepth 100000 in
theorem open_steps {r : Reach} {b0 : Nat} {v : Value} {d : DataW H} {p : List MemPlace} (hv : Value.okWide Tryz.prog w r b0 22 v) (h : DataW.Trod enc Tryz.prog w 0 (fun _ => true) true 22 v d p) :
  ∃ l : List St, StsRd w (· < w.heap.size) v l ∧ (∀ x ∈ l, x.Ok) ∧ (l.length = 0 ∨ ∃ es sp, d = .slice es sp ∧ es.length = l.length) := by
 obtain ⟨a, len, cap, rfl⟩ := okWide_slice Tryz.underlying22 hv
 obtain ⟨n, h2⟩ := Go.Joins.field_of_Trod h rfl
 exact open_stepRow n _ _ h2
end
end
end Go.Proofs.YtpkijdkoiecpiaaGreatDoor
