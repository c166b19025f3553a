/-
  Parts of the proof: PG.
-/
import Derived.Deep.CutBlock
import Derived.Test.YtpkijdkoiecpiaaGreatDoorZR14
import Derived.Test.YtpkijdkoiecpiaaGreatDoorZR24
namespace Go.Proofs.YtpkijdkoiecpiaaGreatDoor
open Go.RowKit
set_option linter.unusedVariables false
set_option linter.unusedSimpArgs false
def usedOf (x:St):St :=
 if x.kind = 1 then ⟨x.kind,x.n,x.cut,x.too,x.job,0,0,0⟩ else if x.kind = 3 then ⟨x.kind,0,0,0,⟨0,[]⟩,x.part,x.at_,0⟩ else if x.kind = 6 then ⟨x.kind,0,0,0,⟨0,[]⟩,0,0,x.why⟩ else ⟨x.kind,0,0,0,⟨0,[]⟩,0,0,0⟩
def goodOf (x:St):Bool :=
 if x.kind = 1 then decide (0 < x.n) && (decide (0 ≤ x.cut) && (decide (x.cut ≤ x.too) && x.job.may.2 == 0)) else if x.kind = 3 then decide (0 ≤ x.part) && (decide (x.part < 2) && decide (0 ≤ x.at_)) else if x.kind = 6 then decide (0 < x.why) else decide (1 ≤ x.kind) && decide (x.kind ≤ 6)
theorem may_used (x:St):x.mayB = (goodOf x && x.sameB (usedOf x)):=by
 unfold goodOf usedOf St.mayB
 by_cases h1:x.kind = 1
 ·rw [if_pos h1,if_pos h1,if_pos h1]
  unfold St.sameB
  dsimp only
  rw [Jb.same_refl]
  have e:decide (0 < x.n) = decide (1 ≤ x.n):=by congr 1
  rw [e]
  cases decide (1 ≤ x.n) <;> cases decide (0 ≤ x.cut) <;> cases decide (x.cut ≤ x.too) <;> cases (x.job.may.2 == 0) <;> simp
 rw [if_neg h1,if_neg h1,if_neg h1]
 by_cases h3:x.kind = 3
 ·rw [if_pos h3,if_pos h3,if_pos h3]
  unfold St.sameB St.noneB
  dsimp only
  have e:(x.part == 0 || x.part == 1) = (decide (0 ≤ x.part) && decide (x.part < 2)):=by
   by_cases a:x.part = 0
   ·rw [a]; rfl
   ·by_cases b:x.part = 1
    ·rw [b]; rfl
    ·rw [beq_eq_false_iff_ne.2 a,beq_eq_false_iff_ne.2 b]
     by_cases c:0 ≤ x.part
     ·rw [decide_eq_true c,decide_eq_false (by omega)]; rfl
     ·rw [decide_eq_false c]; rfl
  rw [e]
  cases decide (0 ≤ x.part) <;> cases decide (x.part < 2) <;> cases decide (0 ≤ x.at_) <;> cases (x.why == 0) <;> cases (x.job.sameB ⟨0,[]⟩) <;> cases (x.n == 0) <;> cases (x.cut == 0) <;> cases (x.too == 0) <;> simp
 rw [if_neg h3,if_neg h3,if_neg h3]
 by_cases h6:x.kind = 6
 ·rw [if_pos h6,if_pos h6,if_pos h6]
  unfold St.sameB St.noneB
  dsimp only
  have e:decide (0 < x.why) = decide (1 ≤ x.why):=by congr 1
  rw [e]
  cases decide (1 ≤ x.why) <;> cases (x.part == 0) <;> cases (x.at_ == 0) <;> cases (x.job.sameB ⟨0,[]⟩) <;> cases (x.n == 0) <;> cases (x.cut == 0) <;> cases (x.too == 0) <;> simp
 rw [if_neg h6,if_neg h6,if_neg h6]
 unfold St.sameB St.noneB
 dsimp only
 by_cases h:x.kind = 2 ∨ x.kind = 4 ∨ x.kind = 5
 ·rw [if_pos h,decide_eq_true (show 1 ≤ x.kind by omega),decide_eq_true (show x.kind ≤ 6 by omega)]
  cases (x.why == 0) <;> cases (x.part == 0) <;> cases (x.at_ == 0) <;> cases (x.job.sameB ⟨0,[]⟩) <;> cases (x.n == 0) <;> cases (x.cut == 0) <;> cases (x.too == 0) <;> simp
 ·rw [if_neg h]
  by_cases h0:1 ≤ x.kind
  ·rw [decide_eq_false (show ¬ x.kind ≤ 6 by omega)]; simp
  ·rw [decide_eq_false h0]; simp
set_option maxRecDepth 100000 in
set_option maxHeartbeats 8000000 in
theorem roMay_c (x:St) (hok:x.Ok) (v:Value) (w:World) (P:Nat → Prop) (hv:StIn w P v x) (hP:∀ b,P b → b < w.heap.size) :
  Calls Tryz.prog 20 #[v] w fun e w' => e = .returned (.bool x.mayB) ∧ Below w.heap.size w w':=by
 obtain ⟨sv,rfl,hn⟩:=hv
 have HME:=Lib.hid (may_used x)
 generalize x.mayB = R at *
 obtain ⟨a,cap,rfl, -, -⟩:=hn.slice
 unfold stC
 by_cases hk1:x.kind = 1
 ·have hU:usedOf x = ⟨x.kind,x.n,x.cut,x.too,x.job,0,0,0⟩:=by unfold usedOf; rw [if_pos hk1]
  have hG:goodOf x = (decide (0 < x.n) && (decide (0 ≤ x.cut) && (decide (x.cut ≤ x.too) && x.job.may.2 == 0))):=by unfold goodOf; rw [if_pos hk1]
  rw [hU,hG] at HME
  have HS:Hid (∀ W:World,Below w.heap.size w W → Calls Tryz.prog 23 #[.agg #[.int .u8 (x.kind:Int), .int .i64 x.n, .int .i64 x.cut, .int .i64 x.too, .int .i64 x.job.par, .slice a x.job.nodes.length cap, .int .i64 x.part, .int .i64 x.at_, .int .i64 x.why], .agg #[.int .u8 (x.kind:Int), .int .i64 x.n, .int .i64 x.cut, .int .i64 x.too, .int .i64 x.job.par, .slice a x.job.nodes.length cap, .int .i64 0, .int .i64 0, .int .i64 0]] W fun e w' => e = .returned (.bool (x.sameB ⟨x.kind,x.n,x.cut,x.too,x.job,0,0,0⟩)) ∧ Below W.heap.size W w') :=
   fun W hb => roSame_c x ⟨x.kind,x.n,x.cut,x.too,x.job,0,0,0⟩ _ _ W P ⟨_,rfl,hn.keep (fun _ k => k) fun b h => hb.block b (hP b h)⟩ ⟨_,rfl,hn.keep (fun _ k => k) fun b h => hb.block b (hP b h)⟩ (fun b h => Nat.lt_of_lt_of_le (hP b h) hb.size)
  have HJM:Hid (∀ W:World,Below w.heap.size w W → Calls Tryz.prog 64 #[.agg #[.int .i64 x.job.par, .slice a x.job.nodes.length cap]] W fun e w' => e = .returned (.tuple #[.int .i64 x.job.may.1, .int .i64 x.job.may.2]) ∧ Below W.heap.size W w') :=
   fun W hb => May_c1 x.job _ w.heap.size W ⟨_,rfl,(hn.toAt hP).keep hb⟩ hb.size
  have k1:((x.kind:Int) == 1) = true:=by rw [beq_iff_eq]; omega
  have k3:((x.kind:Int) == 3) = false:=by rw [beq_eq_false_iff_ne]; omega
  have k6:((x.kind:Int) == 6) = false:=by rw [beq_eq_false_iff_ne]; omega
  have g1:decide ((1:Int) ≤ (x.kind:Int)) = true:=by rw [decide_eq_true_eq]; omega
  have g2:decide ((x.kind:Int) ≤ 6) = true:=by rw [decide_eq_true_eq]; omega
  clear hU hG hk1 hn
  generalize x.sameB _ = SB at *
  generalize x.job.may = jm at *
  cases t0:decide (0 < x.n)
  case false =>
   have HM:Hid (R = false):=by show _ = _; rw [HME.out]; simp only [t0]; try simp
   go_enter Tryz.func20,Tryz.ntmps20
   go_upto_region 5 with fail
   have b1:=(Blk.new w #[.int .u8 (x.kind:Int), .int .i64 x.n, .int .i64 x.cut, .int .i64 x.too, .int .i64 x.job.par, .slice a x.job.nodes.length cap, .int .i64 x.part, .int .i64 x.at_, .int .i64 x.why] 29).alloc (.cells #[.int .u8 (x.kind:Int), .int .i64 0, .int .i64 0, .int .i64 0, .int .i64 0, .slice none 0 0, .int .i64 0, .int .i64 0, .int .i64 0] 29)
   have b2:=Blk.new_at (w.alloc (.cells #[.int .u8 (x.kind:Int), .int .i64 x.n, .int .i64 x.cut, .int .i64 x.too, .int .i64 x.job.par, .slice a x.job.nodes.length cap, .int .i64 x.part, .int .i64 x.at_, .int .i64 x.why] 29)) #[.int .u8 (x.kind:Int), .int .i64 0, .int .i64 0, .int .i64 0, .int .i64 0, .slice none 0 0, .int .i64 0, .int .i64 0, .int .i64 0] 29 (k:=w.heap.size + 1) (by simp)
   have HBT:=two_below w #[.int .u8 (x.kind:Int), .int .i64 x.n, .int .i64 x.cut, .int .i64 x.too, .int .i64 x.job.par, .slice a x.job.nodes.length cap, .int .i64 x.part, .int .i64 x.at_, .int .i64 x.why] #[.int .u8 (x.kind:Int), .int .i64 0, .int .i64 0, .int .i64 0, .int .i64 0, .slice none 0 0, .int .i64 0, .int .i64 0, .int .i64 0] 29 29
   generalize World.alloc (World.alloc w _) _ = W5 at *
   have c10:=b1.cell 0
   have c11:=b1.cell 1
   have c12:=b1.cell 2
   have c13:=b1.cell 3
   have c14:=b1.cell 4
   have c15:=b1.cell 5
   have m21:=b2.free 1
   have m22:=b2.free 2
   have m23:=b2.free 3
   have m24:=b2.free 4
   have m25:=b2.free 5
   have c21:=b2.cell 1
   have c22:=b2.cell 2
   have c23:=b2.cell 3
   have c24:=b2.cell 4
   have c25:=b2.cell 5
   have hne:w.heap.size ≠ w.heap.size + 1:=by omega
   have hne2:w.heap.size + 1 ≠ w.heap.size:=by omega
   have B1:=Lib.hid b1
   have B2:=Lib.hid b2
   go_region
   all_goals
    have b3:=(((((B2.out.set 1 (.int .i64 x.n)).set 2 (.int .i64 x.cut)).set 3 (.int .i64 x.too)).set 4 (.int .i64 x.job.par)).set 5 (.slice a x.job.nodes.length cap)).drew
    have b4:=(((((B1.out.other (p:=⟨w.heap.size + 1,1,none⟩) hne (.int .i64 x.n)).other (p:=⟨w.heap.size + 1,2,none⟩) hne (.int .i64 x.cut)).other (p:=⟨w.heap.size + 1,3,none⟩) hne (.int .i64 x.too)).other (p:=⟨w.heap.size + 1,4,none⟩) hne (.int .i64 x.job.par)).other (p:=⟨w.heap.size + 1,5,none⟩) hne (.slice a x.job.nodes.length cap)).drew
    have hb6:=(((((HBT.setCell (p:=⟨w.heap.size + 1,1,none⟩) (Nat.le_succ _) (.int .i64 x.n)).setCell (p:=⟨w.heap.size + 1,2,none⟩) (Nat.le_succ _) (.int .i64 x.cut)).setCell (p:=⟨w.heap.size + 1,3,none⟩) (Nat.le_succ _) (.int .i64 x.too)).setCell (p:=⟨w.heap.size + 1,4,none⟩) (Nat.le_succ _) (.int .i64 x.job.par)).setCell (p:=⟨w.heap.size + 1,5,none⟩) (Nat.le_succ _) (.slice a x.job.nodes.length cap)).drew
    clear c10 c11 c12 c13 c14 c15 c21 c22 c23 c24 c25 m21 m22 m23 m24 m25 b1 b2 HBT
    generalize World.drew _ = W6 at *
    have c14:=b4.cell 4
    have c15:=b4.cell 5
    go_upto_region 7 with (first | (go_at_call 64; refine (HJM.out W6 hb6).mono ?_; rintro e w7 ⟨rfl,hb7⟩) | fail)
    have HBT:=hb6.trans (hb7.mono hb6.size)
    have hlt1:w.heap.size < W6.heap.size:=b4.lt
    have hlt2:w.heap.size + 1 < W6.heap.size:=b3.lt
    have b5:=b4.below hb7 b4.lt
    have b6:=b3.below hb7 b3.lt
    clear c14 c15 hb7 hb6 b3 b4
    have c10:=b5.cell 0
    have c11:=b5.cell 1
    have c12:=b5.cell 2
    have c13:=b5.cell 3
    have c14:=b5.cell 4
    have c15:=b5.cell 5
    have c16:=b5.cell 6
    have c17:=b5.cell 7
    have c18:=b5.cell 8
    have c20:=b6.cell 0
    have c21:=b6.cell 1
    have c22:=b6.cell 2
    have c23:=b6.cell 3
    have c24:=b6.cell 4
    have c25:=b6.cell 5
    have c26:=b6.cell 6
    have c27:=b6.cell 7
    have c28:=b6.cell 8
    go_wp2_with fail
    go_ret
    rw [HM.out]
    exact ⟨rfl,HBT⟩
  case true =>
  cases t1:decide (0 ≤ x.cut)
  case false =>
   have HM:Hid (R = false):=by show _ = _; rw [HME.out]; simp only [t0,t1]; try simp
   go_enter Tryz.func20,Tryz.ntmps20
   go_upto_region 5 with fail
   have b1:=(Blk.new w #[.int .u8 (x.kind:Int), .int .i64 x.n, .int .i64 x.cut, .int .i64 x.too, .int .i64 x.job.par, .slice a x.job.nodes.length cap, .int .i64 x.part, .int .i64 x.at_, .int .i64 x.why] 29).alloc (.cells #[.int .u8 (x.kind:Int), .int .i64 0, .int .i64 0, .int .i64 0, .int .i64 0, .slice none 0 0, .int .i64 0, .int .i64 0, .int .i64 0] 29)
   have b2:=Blk.new_at (w.alloc (.cells #[.int .u8 (x.kind:Int), .int .i64 x.n, .int .i64 x.cut, .int .i64 x.too, .int .i64 x.job.par, .slice a x.job.nodes.length cap, .int .i64 x.part, .int .i64 x.at_, .int .i64 x.why] 29)) #[.int .u8 (x.kind:Int), .int .i64 0, .int .i64 0, .int .i64 0, .int .i64 0, .slice none 0 0, .int .i64 0, .int .i64 0, .int .i64 0] 29 (k:=w.heap.size + 1) (by simp)
   have HBT:=two_below w #[.int .u8 (x.kind:Int), .int .i64 x.n, .int .i64 x.cut, .int .i64 x.too, .int .i64 x.job.par, .slice a x.job.nodes.length cap, .int .i64 x.part, .int .i64 x.at_, .int .i64 x.why] #[.int .u8 (x.kind:Int), .int .i64 0, .int .i64 0, .int .i64 0, .int .i64 0, .slice none 0 0, .int .i64 0, .int .i64 0, .int .i64 0] 29 29
   generalize World.alloc (World.alloc w _) _ = W5 at *
   have c10:=b1.cell 0
   have c11:=b1.cell 1
   have c12:=b1.cell 2
   have c13:=b1.cell 3
   have c14:=b1.cell 4
   have c15:=b1.cell 5
   have m21:=b2.free 1
   have m22:=b2.free 2
   have m23:=b2.free 3
   have m24:=b2.free 4
   have m25:=b2.free 5
   have c21:=b2.cell 1
   have c22:=b2.cell 2
   have c23:=b2.cell 3
   have c24:=b2.cell 4
   have c25:=b2.cell 5
   have hne:w.heap.size ≠ w.heap.size + 1:=by omega
   have hne2:w.heap.size + 1 ≠ w.heap.size:=by omega
   have B1:=Lib.hid b1
   have B2:=Lib.hid b2
   go_region
   all_goals
    have b3:=(((((B2.out.set 1 (.int .i64 x.n)).set 2 (.int .i64 x.cut)).set 3 (.int .i64 x.too)).set 4 (.int .i64 x.job.par)).set 5 (.slice a x.job.nodes.length cap)).drew
    have b4:=(((((B1.out.other (p:=⟨w.heap.size + 1,1,none⟩) hne (.int .i64 x.n)).other (p:=⟨w.heap.size + 1,2,none⟩) hne (.int .i64 x.cut)).other (p:=⟨w.heap.size + 1,3,none⟩) hne (.int .i64 x.too)).other (p:=⟨w.heap.size + 1,4,none⟩) hne (.int .i64 x.job.par)).other (p:=⟨w.heap.size + 1,5,none⟩) hne (.slice a x.job.nodes.length cap)).drew
    have hb6:=(((((HBT.setCell (p:=⟨w.heap.size + 1,1,none⟩) (Nat.le_succ _) (.int .i64 x.n)).setCell (p:=⟨w.heap.size + 1,2,none⟩) (Nat.le_succ _) (.int .i64 x.cut)).setCell (p:=⟨w.heap.size + 1,3,none⟩) (Nat.le_succ _) (.int .i64 x.too)).setCell (p:=⟨w.heap.size + 1,4,none⟩) (Nat.le_succ _) (.int .i64 x.job.par)).setCell (p:=⟨w.heap.size + 1,5,none⟩) (Nat.le_succ _) (.slice a x.job.nodes.length cap)).drew
    clear c10 c11 c12 c13 c14 c15 c21 c22 c23 c24 c25 m21 m22 m23 m24 m25 b1 b2 HBT
    generalize World.drew _ = W6 at *
    have c14:=b4.cell 4
    have c15:=b4.cell 5
    go_upto_region 7 with (first | (go_at_call 64; refine (HJM.out W6 hb6).mono ?_; rintro e w7 ⟨rfl,hb7⟩) | fail)
    have HBT:=hb6.trans (hb7.mono hb6.size)
    have hlt1:w.heap.size < W6.heap.size:=b4.lt
    have hlt2:w.heap.size + 1 < W6.heap.size:=b3.lt
    have b5:=b4.below hb7 b4.lt
    have b6:=b3.below hb7 b3.lt
    clear c14 c15 hb7 hb6 b3 b4
    have c10:=b5.cell 0
    have c11:=b5.cell 1
    have c12:=b5.cell 2
    have c13:=b5.cell 3
    have c14:=b5.cell 4
    have c15:=b5.cell 5
    have c16:=b5.cell 6
    have c17:=b5.cell 7
    have c18:=b5.cell 8
    have c20:=b6.cell 0
    have c21:=b6.cell 1
    have c22:=b6.cell 2
    have c23:=b6.cell 3
    have c24:=b6.cell 4
    have c25:=b6.cell 5
    have c26:=b6.cell 6
    have c27:=b6.cell 7
    have c28:=b6.cell 8
    go_wp2_with fail
    go_ret
    rw [HM.out]
    exact ⟨rfl,HBT⟩
  case true =>
  cases t2:decide (x.cut ≤ x.too)
  case false =>
   have HM:Hid (R = false):=by show _ = _; rw [HME.out]; simp only [t0,t1,t2]; try simp
   go_enter Tryz.func20,Tryz.ntmps20
   go_upto_region 5 with fail
   have b1:=(Blk.new w #[.int .u8 (x.kind:Int), .int .i64 x.n, .int .i64 x.cut, .int .i64 x.too, .int .i64 x.job.par, .slice a x.job.nodes.length cap, .int .i64 x.part, .int .i64 x.at_, .int .i64 x.why] 29).alloc (.cells #[.int .u8 (x.kind:Int), .int .i64 0, .int .i64 0, .int .i64 0, .int .i64 0, .slice none 0 0, .int .i64 0, .int .i64 0, .int .i64 0] 29)
   have b2:=Blk.new_at (w.alloc (.cells #[.int .u8 (x.kind:Int), .int .i64 x.n, .int .i64 x.cut, .int .i64 x.too, .int .i64 x.job.par, .slice a x.job.nodes.length cap, .int .i64 x.part, .int .i64 x.at_, .int .i64 x.why] 29)) #[.int .u8 (x.kind:Int), .int .i64 0, .int .i64 0, .int .i64 0, .int .i64 0, .slice none 0 0, .int .i64 0, .int .i64 0, .int .i64 0] 29 (k:=w.heap.size + 1) (by simp)
   have HBT:=two_below w #[.int .u8 (x.kind:Int), .int .i64 x.n, .int .i64 x.cut, .int .i64 x.too, .int .i64 x.job.par, .slice a x.job.nodes.length cap, .int .i64 x.part, .int .i64 x.at_, .int .i64 x.why] #[.int .u8 (x.kind:Int), .int .i64 0, .int .i64 0, .int .i64 0, .int .i64 0, .slice none 0 0, .int .i64 0, .int .i64 0, .int .i64 0] 29 29
   generalize World.alloc (World.alloc w _) _ = W5 at *
   have c10:=b1.cell 0
   have c11:=b1.cell 1
   have c12:=b1.cell 2
   have c13:=b1.cell 3
   have c14:=b1.cell 4
   have c15:=b1.cell 5
   have m21:=b2.free 1
   have m22:=b2.free 2
   have m23:=b2.free 3
   have m24:=b2.free 4
   have m25:=b2.free 5
   have c21:=b2.cell 1
   have c22:=b2.cell 2
   have c23:=b2.cell 3
   have c24:=b2.cell 4
   have c25:=b2.cell 5
   have hne:w.heap.size ≠ w.heap.size + 1:=by omega
   have hne2:w.heap.size + 1 ≠ w.heap.size:=by omega
   have B1:=Lib.hid b1
   have B2:=Lib.hid b2
   go_region
   all_goals
    have b3:=(((((B2.out.set 1 (.int .i64 x.n)).set 2 (.int .i64 x.cut)).set 3 (.int .i64 x.too)).set 4 (.int .i64 x.job.par)).set 5 (.slice a x.job.nodes.length cap)).drew
    have b4:=(((((B1.out.other (p:=⟨w.heap.size + 1,1,none⟩) hne (.int .i64 x.n)).other (p:=⟨w.heap.size + 1,2,none⟩) hne (.int .i64 x.cut)).other (p:=⟨w.heap.size + 1,3,none⟩) hne (.int .i64 x.too)).other (p:=⟨w.heap.size + 1,4,none⟩) hne (.int .i64 x.job.par)).other (p:=⟨w.heap.size + 1,5,none⟩) hne (.slice a x.job.nodes.length cap)).drew
    have hb6:=(((((HBT.setCell (p:=⟨w.heap.size + 1,1,none⟩) (Nat.le_succ _) (.int .i64 x.n)).setCell (p:=⟨w.heap.size + 1,2,none⟩) (Nat.le_succ _) (.int .i64 x.cut)).setCell (p:=⟨w.heap.size + 1,3,none⟩) (Nat.le_succ _) (.int .i64 x.too)).setCell (p:=⟨w.heap.size + 1,4,none⟩) (Nat.le_succ _) (.int .i64 x.job.par)).setCell (p:=⟨w.heap.size + 1,5,none⟩) (Nat.le_succ _) (.slice a x.job.nodes.length cap)).drew
    clear c10 c11 c12 c13 c14 c15 c21 c22 c23 c24 c25 m21 m22 m23 m24 m25 b1 b2 HBT
    generalize World.drew _ = W6 at *
    have c14:=b4.cell 4
    have c15:=b4.cell 5
    go_upto_region 7 with (first | (go_at_call 64; refine (HJM.out W6 hb6).mono ?_; rintro e w7 ⟨rfl,hb7⟩) | fail)
    have HBT:=hb6.trans (hb7.mono hb6.size)
    have hlt1:w.heap.size < W6.heap.size:=b4.lt
    have hlt2:w.heap.size + 1 < W6.heap.size:=b3.lt
    have b5:=b4.below hb7 b4.lt
    have b6:=b3.below hb7 b3.lt
    clear c14 c15 hb7 hb6 b3 b4
    have c10:=b5.cell 0
    have c11:=b5.cell 1
    have c12:=b5.cell 2
    have c13:=b5.cell 3
    have c14:=b5.cell 4
    have c15:=b5.cell 5
    have c16:=b5.cell 6
    have c17:=b5.cell 7
    have c18:=b5.cell 8
    have c20:=b6.cell 0
    have c21:=b6.cell 1
    have c22:=b6.cell 2
    have c23:=b6.cell 3
    have c24:=b6.cell 4
    have c25:=b6.cell 5
    have c26:=b6.cell 6
    have c27:=b6.cell 7
    have c28:=b6.cell 8
    go_wp2_with fail
    go_ret
    rw [HM.out]
    exact ⟨rfl,HBT⟩
  case true =>
  cases t3:(jm.2 == 0)
  case false =>
   have HM:Hid (R = false):=by show _ = _; rw [HME.out]; simp only [t0,t1,t2,t3]; try simp
   go_enter Tryz.func20,Tryz.ntmps20
   go_upto_region 5 with fail
   have b1:=(Blk.new w #[.int .u8 (x.kind:Int), .int .i64 x.n, .int .i64 x.cut, .int .i64 x.too, .int .i64 x.job.par, .slice a x.job.nodes.length cap, .int .i64 x.part, .int .i64 x.at_, .int .i64 x.why] 29).alloc (.cells #[.int .u8 (x.kind:Int), .int .i64 0, .int .i64 0, .int .i64 0, .int .i64 0, .slice none 0 0, .int .i64 0, .int .i64 0, .int .i64 0] 29)
   have b2:=Blk.new_at (w.alloc (.cells #[.int .u8 (x.kind:Int), .int .i64 x.n, .int .i64 x.cut, .int .i64 x.too, .int .i64 x.job.par, .slice a x.job.nodes.length cap, .int .i64 x.part, .int .i64 x.at_, .int .i64 x.why] 29)) #[.int .u8 (x.kind:Int), .int .i64 0, .int .i64 0, .int .i64 0, .int .i64 0, .slice none 0 0, .int .i64 0, .int .i64 0, .int .i64 0] 29 (k:=w.heap.size + 1) (by simp)
   have HBT:=two_below w #[.int .u8 (x.kind:Int), .int .i64 x.n, .int .i64 x.cut, .int .i64 x.too, .int .i64 x.job.par, .slice a x.job.nodes.length cap, .int .i64 x.part, .int .i64 x.at_, .int .i64 x.why] #[.int .u8 (x.kind:Int), .int .i64 0, .int .i64 0, .int .i64 0, .int .i64 0, .slice none 0 0, .int .i64 0, .int .i64 0, .int .i64 0] 29 29
   generalize World.alloc (World.alloc w _) _ = W5 at *
   have c10:=b1.cell 0
   have c11:=b1.cell 1
   have c12:=b1.cell 2
   have c13:=b1.cell 3
   have c14:=b1.cell 4
   have c15:=b1.cell 5
   have m21:=b2.free 1
   have m22:=b2.free 2
   have m23:=b2.free 3
   have m24:=b2.free 4
   have m25:=b2.free 5
   have c21:=b2.cell 1
   have c22:=b2.cell 2
   have c23:=b2.cell 3
   have c24:=b2.cell 4
   have c25:=b2.cell 5
   have hne:w.heap.size ≠ w.heap.size + 1:=by omega
   have hne2:w.heap.size + 1 ≠ w.heap.size:=by omega
   have B1:=Lib.hid b1
   have B2:=Lib.hid b2
   go_region
   all_goals
    have b3:=(((((B2.out.set 1 (.int .i64 x.n)).set 2 (.int .i64 x.cut)).set 3 (.int .i64 x.too)).set 4 (.int .i64 x.job.par)).set 5 (.slice a x.job.nodes.length cap)).drew
    have b4:=(((((B1.out.other (p:=⟨w.heap.size + 1,1,none⟩) hne (.int .i64 x.n)).other (p:=⟨w.heap.size + 1,2,none⟩) hne (.int .i64 x.cut)).other (p:=⟨w.heap.size + 1,3,none⟩) hne (.int .i64 x.too)).other (p:=⟨w.heap.size + 1,4,none⟩) hne (.int .i64 x.job.par)).other (p:=⟨w.heap.size + 1,5,none⟩) hne (.slice a x.job.nodes.length cap)).drew
    have hb6:=(((((HBT.setCell (p:=⟨w.heap.size + 1,1,none⟩) (Nat.le_succ _) (.int .i64 x.n)).setCell (p:=⟨w.heap.size + 1,2,none⟩) (Nat.le_succ _) (.int .i64 x.cut)).setCell (p:=⟨w.heap.size + 1,3,none⟩) (Nat.le_succ _) (.int .i64 x.too)).setCell (p:=⟨w.heap.size + 1,4,none⟩) (Nat.le_succ _) (.int .i64 x.job.par)).setCell (p:=⟨w.heap.size + 1,5,none⟩) (Nat.le_succ _) (.slice a x.job.nodes.length cap)).drew
    clear c10 c11 c12 c13 c14 c15 c21 c22 c23 c24 c25 m21 m22 m23 m24 m25 b1 b2 HBT
    generalize World.drew _ = W6 at *
    have c14:=b4.cell 4
    have c15:=b4.cell 5
    go_upto_region 7 with (first | (go_at_call 64; refine (HJM.out W6 hb6).mono ?_; rintro e w7 ⟨rfl,hb7⟩) | fail)
    have HBT:=hb6.trans (hb7.mono hb6.size)
    have hlt1:w.heap.size < W6.heap.size:=b4.lt
    have hlt2:w.heap.size + 1 < W6.heap.size:=b3.lt
    have b5:=b4.below hb7 b4.lt
    have b6:=b3.below hb7 b3.lt
    clear c14 c15 hb7 hb6 b3 b4
    have c10:=b5.cell 0
    have c11:=b5.cell 1
    have c12:=b5.cell 2
    have c13:=b5.cell 3
    have c14:=b5.cell 4
    have c15:=b5.cell 5
    have c16:=b5.cell 6
    have c17:=b5.cell 7
    have c18:=b5.cell 8
    have c20:=b6.cell 0
    have c21:=b6.cell 1
    have c22:=b6.cell 2
    have c23:=b6.cell 3
    have c24:=b6.cell 4
    have c25:=b6.cell 5
    have c26:=b6.cell 6
    have c27:=b6.cell 7
    have c28:=b6.cell 8
    go_wp2_with fail
    go_ret
    rw [HM.out]
    exact ⟨rfl,HBT⟩
  case true =>
  have HM:Hid (R = SB):=by show _ = _; rw [HME.out]; simp only [t0,t1,t2,t3]; try simp
  go_enter Tryz.func20,Tryz.ntmps20
  go_upto_region 5 with fail
  have b1:=(Blk.new w #[.int .u8 (x.kind:Int), .int .i64 x.n, .int .i64 x.cut, .int .i64 x.too, .int .i64 x.job.par, .slice a x.job.nodes.length cap, .int .i64 x.part, .int .i64 x.at_, .int .i64 x.why] 29).alloc (.cells #[.int .u8 (x.kind:Int), .int .i64 0, .int .i64 0, .int .i64 0, .int .i64 0, .slice none 0 0, .int .i64 0, .int .i64 0, .int .i64 0] 29)
  have b2:=Blk.new_at (w.alloc (.cells #[.int .u8 (x.kind:Int), .int .i64 x.n, .int .i64 x.cut, .int .i64 x.too, .int .i64 x.job.par, .slice a x.job.nodes.length cap, .int .i64 x.part, .int .i64 x.at_, .int .i64 x.why] 29)) #[.int .u8 (x.kind:Int), .int .i64 0, .int .i64 0, .int .i64 0, .int .i64 0, .slice none 0 0, .int .i64 0, .int .i64 0, .int .i64 0] 29 (k:=w.heap.size + 1) (by simp)
  have HBT:=two_below w #[.int .u8 (x.kind:Int), .int .i64 x.n, .int .i64 x.cut, .int .i64 x.too, .int .i64 x.job.par, .slice a x.job.nodes.length cap, .int .i64 x.part, .int .i64 x.at_, .int .i64 x.why] #[.int .u8 (x.kind:Int), .int .i64 0, .int .i64 0, .int .i64 0, .int .i64 0, .slice none 0 0, .int .i64 0, .int .i64 0, .int .i64 0] 29 29
  generalize World.alloc (World.alloc w _) _ = W5 at *
  have c10:=b1.cell 0
  have c11:=b1.cell 1
  have c12:=b1.cell 2
  have c13:=b1.cell 3
  have c14:=b1.cell 4
  have c15:=b1.cell 5
  have m21:=b2.free 1
  have m22:=b2.free 2
  have m23:=b2.free 3
  have m24:=b2.free 4
  have m25:=b2.free 5
  have c21:=b2.cell 1
  have c22:=b2.cell 2
  have c23:=b2.cell 3
  have c24:=b2.cell 4
  have c25:=b2.cell 5
  have hne:w.heap.size ≠ w.heap.size + 1:=by omega
  have hne2:w.heap.size + 1 ≠ w.heap.size:=by omega
  have B1:=Lib.hid b1
  have B2:=Lib.hid b2
  go_region
  all_goals
   have b3:=(((((B2.out.set 1 (.int .i64 x.n)).set 2 (.int .i64 x.cut)).set 3 (.int .i64 x.too)).set 4 (.int .i64 x.job.par)).set 5 (.slice a x.job.nodes.length cap)).drew
   have b4:=(((((B1.out.other (p:=⟨w.heap.size + 1,1,none⟩) hne (.int .i64 x.n)).other (p:=⟨w.heap.size + 1,2,none⟩) hne (.int .i64 x.cut)).other (p:=⟨w.heap.size + 1,3,none⟩) hne (.int .i64 x.too)).other (p:=⟨w.heap.size + 1,4,none⟩) hne (.int .i64 x.job.par)).other (p:=⟨w.heap.size + 1,5,none⟩) hne (.slice a x.job.nodes.length cap)).drew
   have hb6:=(((((HBT.setCell (p:=⟨w.heap.size + 1,1,none⟩) (Nat.le_succ _) (.int .i64 x.n)).setCell (p:=⟨w.heap.size + 1,2,none⟩) (Nat.le_succ _) (.int .i64 x.cut)).setCell (p:=⟨w.heap.size + 1,3,none⟩) (Nat.le_succ _) (.int .i64 x.too)).setCell (p:=⟨w.heap.size + 1,4,none⟩) (Nat.le_succ _) (.int .i64 x.job.par)).setCell (p:=⟨w.heap.size + 1,5,none⟩) (Nat.le_succ _) (.slice a x.job.nodes.length cap)).drew
   clear c10 c11 c12 c13 c14 c15 c21 c22 c23 c24 c25 m21 m22 m23 m24 m25 b1 b2 HBT
   generalize World.drew _ = W6 at *
   have c14:=b4.cell 4
   have c15:=b4.cell 5
   go_upto_region 7 with (first | (go_at_call 64; refine (HJM.out W6 hb6).mono ?_; rintro e w7 ⟨rfl,hb7⟩) | fail)
   have HBT:=hb6.trans (hb7.mono hb6.size)
   have hlt1:w.heap.size < W6.heap.size:=b4.lt
   have hlt2:w.heap.size + 1 < W6.heap.size:=b3.lt
   have b5:=b4.below hb7 b4.lt
   have b6:=b3.below hb7 b3.lt
   clear c14 c15 hb7 hb6 b3 b4
   have c10:=b5.cell 0
   have c11:=b5.cell 1
   have c12:=b5.cell 2
   have c13:=b5.cell 3
   have c14:=b5.cell 4
   have c15:=b5.cell 5
   have c16:=b5.cell 6
   have c17:=b5.cell 7
   have c18:=b5.cell 8
   have c20:=b6.cell 0
   have c21:=b6.cell 1
   have c22:=b6.cell 2
   have c23:=b6.cell 3
   have c24:=b6.cell 4
   have c25:=b6.cell 5
   have c26:=b6.cell 6
   have c27:=b6.cell 7
   have c28:=b6.cell 8
   go_wp2_with (first | (go_at_call 23; refine (HS.out _ HBT).mono ?_; rintro e w9 ⟨rfl,hb9⟩) | fail)
   go_ret
   rw [HM.out]
   exact ⟨rfl,HBT.trans (hb9.mono HBT.size)⟩
 by_cases hk3:x.kind = 3
 ·skip
  have hU:usedOf x = ⟨x.kind,0,0,0,⟨0,[]⟩,x.part,x.at_,0⟩:=by unfold usedOf; rw [if_neg hk1,if_pos hk3]
  have hG:goodOf x = (decide (0 ≤ x.part) && (decide (x.part < 2) && decide (0 ≤ x.at_))):=by unfold goodOf; rw [if_neg hk1,if_pos hk3]
  rw [hU,hG] at HME
  have HS:Hid (∀ W:World,Below w.heap.size w W → Calls Tryz.prog 23 #[.agg #[.int .u8 (x.kind:Int), .int .i64 x.n, .int .i64 x.cut, .int .i64 x.too, .int .i64 x.job.par, .slice a x.job.nodes.length cap, .int .i64 x.part, .int .i64 x.at_, .int .i64 x.why], .agg #[.int .u8 (x.kind:Int), .int .i64 0, .int .i64 0, .int .i64 0, .int .i64 0, .slice none 0 0, .int .i64 x.part, .int .i64 x.at_, .int .i64 0]] W fun e w' => e = .returned (.bool (x.sameB ⟨x.kind,0,0,0,⟨0,[]⟩,x.part,x.at_,0⟩)) ∧ Below W.heap.size W w') :=
   fun W hb => roSame_c x ⟨x.kind,0,0,0,⟨0,[]⟩,x.part,x.at_,0⟩ _ _ W P ⟨_,rfl,hn.keep (fun _ k => k) fun b h => hb.block b (hP b h)⟩ ⟨_,rfl,NodesIn.nil _ _⟩ (fun b h => Nat.lt_of_lt_of_le (hP b h) hb.size)
  have k1:((x.kind:Int) == 1) = false:=by rw [beq_eq_false_iff_ne]; omega
  have k3:((x.kind:Int) == 3) = true:=by rw [beq_iff_eq]; omega
  have k6:((x.kind:Int) == 6) = false:=by rw [beq_eq_false_iff_ne]; omega
  have g1:decide ((1:Int) ≤ (x.kind:Int)) = true:=by rw [decide_eq_true_eq]; omega
  have g2:decide ((x.kind:Int) ≤ 6) = true:=by rw [decide_eq_true_eq]; omega
  clear hU hG hn hk1 hk3
  generalize x.sameB _ = SB at *
  cases t0:decide (0 ≤ x.part)
  case false =>
   have HM:Hid (R = false):=by show _ = _; rw [HME.out]; simp only [t0]; try simp
   go_enter Tryz.func20,Tryz.ntmps20
   go_upto_region 9 with fail
   have b1:=(Blk.new w #[.int .u8 (x.kind:Int), .int .i64 x.n, .int .i64 x.cut, .int .i64 x.too, .int .i64 x.job.par, .slice a x.job.nodes.length cap, .int .i64 x.part, .int .i64 x.at_, .int .i64 x.why] 29).alloc (.cells #[.int .u8 (x.kind:Int), .int .i64 0, .int .i64 0, .int .i64 0, .int .i64 0, .slice none 0 0, .int .i64 0, .int .i64 0, .int .i64 0] 29)
   have b2:=Blk.new_at (w.alloc (.cells #[.int .u8 (x.kind:Int), .int .i64 x.n, .int .i64 x.cut, .int .i64 x.too, .int .i64 x.job.par, .slice a x.job.nodes.length cap, .int .i64 x.part, .int .i64 x.at_, .int .i64 x.why] 29)) #[.int .u8 (x.kind:Int), .int .i64 0, .int .i64 0, .int .i64 0, .int .i64 0, .slice none 0 0, .int .i64 0, .int .i64 0, .int .i64 0] 29 (k:=w.heap.size + 1) (by simp)
   have HBT:=two_below w #[.int .u8 (x.kind:Int), .int .i64 x.n, .int .i64 x.cut, .int .i64 x.too, .int .i64 x.job.par, .slice a x.job.nodes.length cap, .int .i64 x.part, .int .i64 x.at_, .int .i64 x.why] #[.int .u8 (x.kind:Int), .int .i64 0, .int .i64 0, .int .i64 0, .int .i64 0, .slice none 0 0, .int .i64 0, .int .i64 0, .int .i64 0] 29 29
   generalize World.alloc (World.alloc w _) _ = W5 at *
   have c10:=b1.cell 0
   have c16:=b1.cell 6
   have c17:=b1.cell 7
   have c26:=b2.cell 6
   have c27:=b2.cell 7
   have m26:=b2.free 6
   have m27:=b2.free 7
   have hne:w.heap.size ≠ w.heap.size + 1:=by omega
   have hne2:w.heap.size + 1 ≠ w.heap.size:=by omega
   have B1:=Lib.hid b1
   have B2:=Lib.hid b2
   go_region
   all_goals
    have b3:=((B2.out.set 6 (.int .i64 x.part)).set 7 (.int .i64 x.at_)).drew
    have b4:=((B1.out.other (p:=⟨w.heap.size + 1,6,none⟩) hne (.int .i64 x.part)).other (p:=⟨w.heap.size + 1,7,none⟩) hne (.int .i64 x.at_)).drew
    have hb6:=((HBT.setCell (p:=⟨w.heap.size + 1,6,none⟩) (Nat.le_succ _) (.int .i64 x.part)).setCell (p:=⟨w.heap.size + 1,7,none⟩) (Nat.le_succ _) (.int .i64 x.at_)).drew
    clear c10 c16 c26 m26 c17 c27 m27 b1 b2 HBT
    generalize World.drew _ = W6 at *
    have HBT:=hb6
    have c10:=b4.cell 0
    have c11:=b4.cell 1
    have c12:=b4.cell 2
    have c13:=b4.cell 3
    have c14:=b4.cell 4
    have c15:=b4.cell 5
    have c16:=b4.cell 6
    have c17:=b4.cell 7
    have c18:=b4.cell 8
    have c20:=b3.cell 0
    have c21:=b3.cell 1
    have c22:=b3.cell 2
    have c23:=b3.cell 3
    have c24:=b3.cell 4
    have c25:=b3.cell 5
    have c26:=b3.cell 6
    have c27:=b3.cell 7
    have c28:=b3.cell 8
    go_wp2_with fail
    go_ret
    rw [HM.out]
    exact ⟨rfl,HBT⟩
  case true =>
  cases t1:decide (x.part < 2)
  case false =>
   have HM:Hid (R = false):=by show _ = _; rw [HME.out]; simp only [t0,t1]; try simp
   go_enter Tryz.func20,Tryz.ntmps20
   go_upto_region 9 with fail
   have b1:=(Blk.new w #[.int .u8 (x.kind:Int), .int .i64 x.n, .int .i64 x.cut, .int .i64 x.too, .int .i64 x.job.par, .slice a x.job.nodes.length cap, .int .i64 x.part, .int .i64 x.at_, .int .i64 x.why] 29).alloc (.cells #[.int .u8 (x.kind:Int), .int .i64 0, .int .i64 0, .int .i64 0, .int .i64 0, .slice none 0 0, .int .i64 0, .int .i64 0, .int .i64 0] 29)
   have b2:=Blk.new_at (w.alloc (.cells #[.int .u8 (x.kind:Int), .int .i64 x.n, .int .i64 x.cut, .int .i64 x.too, .int .i64 x.job.par, .slice a x.job.nodes.length cap, .int .i64 x.part, .int .i64 x.at_, .int .i64 x.why] 29)) #[.int .u8 (x.kind:Int), .int .i64 0, .int .i64 0, .int .i64 0, .int .i64 0, .slice none 0 0, .int .i64 0, .int .i64 0, .int .i64 0] 29 (k:=w.heap.size + 1) (by simp)
   have HBT:=two_below w #[.int .u8 (x.kind:Int), .int .i64 x.n, .int .i64 x.cut, .int .i64 x.too, .int .i64 x.job.par, .slice a x.job.nodes.length cap, .int .i64 x.part, .int .i64 x.at_, .int .i64 x.why] #[.int .u8 (x.kind:Int), .int .i64 0, .int .i64 0, .int .i64 0, .int .i64 0, .slice none 0 0, .int .i64 0, .int .i64 0, .int .i64 0] 29 29
   generalize World.alloc (World.alloc w _) _ = W5 at *
   have c10:=b1.cell 0
   have c16:=b1.cell 6
   have c17:=b1.cell 7
   have c26:=b2.cell 6
   have c27:=b2.cell 7
   have m26:=b2.free 6
   have m27:=b2.free 7
   have hne:w.heap.size ≠ w.heap.size + 1:=by omega
   have hne2:w.heap.size + 1 ≠ w.heap.size:=by omega
   have B1:=Lib.hid b1
   have B2:=Lib.hid b2
   go_region
   all_goals
    have b3:=((B2.out.set 6 (.int .i64 x.part)).set 7 (.int .i64 x.at_)).drew
    have b4:=((B1.out.other (p:=⟨w.heap.size + 1,6,none⟩) hne (.int .i64 x.part)).other (p:=⟨w.heap.size + 1,7,none⟩) hne (.int .i64 x.at_)).drew
    have hb6:=((HBT.setCell (p:=⟨w.heap.size + 1,6,none⟩) (Nat.le_succ _) (.int .i64 x.part)).setCell (p:=⟨w.heap.size + 1,7,none⟩) (Nat.le_succ _) (.int .i64 x.at_)).drew
    clear c10 c16 c26 m26 c17 c27 m27 b1 b2 HBT
    generalize World.drew _ = W6 at *
    have HBT:=hb6
    have c10:=b4.cell 0
    have c11:=b4.cell 1
    have c12:=b4.cell 2
    have c13:=b4.cell 3
    have c14:=b4.cell 4
    have c15:=b4.cell 5
    have c16:=b4.cell 6
    have c17:=b4.cell 7
    have c18:=b4.cell 8
    have c20:=b3.cell 0
    have c21:=b3.cell 1
    have c22:=b3.cell 2
    have c23:=b3.cell 3
    have c24:=b3.cell 4
    have c25:=b3.cell 5
    have c26:=b3.cell 6
    have c27:=b3.cell 7
    have c28:=b3.cell 8
    go_wp2_with fail
    go_ret
    rw [HM.out]
    exact ⟨rfl,HBT⟩
  case true =>
  cases t2:decide (0 ≤ x.at_)
  case false =>
   have HM:Hid (R = false):=by show _ = _; rw [HME.out]; simp only [t0,t1,t2]; try simp
   go_enter Tryz.func20,Tryz.ntmps20
   go_upto_region 9 with fail
   have b1:=(Blk.new w #[.int .u8 (x.kind:Int), .int .i64 x.n, .int .i64 x.cut, .int .i64 x.too, .int .i64 x.job.par, .slice a x.job.nodes.length cap, .int .i64 x.part, .int .i64 x.at_, .int .i64 x.why] 29).alloc (.cells #[.int .u8 (x.kind:Int), .int .i64 0, .int .i64 0, .int .i64 0, .int .i64 0, .slice none 0 0, .int .i64 0, .int .i64 0, .int .i64 0] 29)
   have b2:=Blk.new_at (w.alloc (.cells #[.int .u8 (x.kind:Int), .int .i64 x.n, .int .i64 x.cut, .int .i64 x.too, .int .i64 x.job.par, .slice a x.job.nodes.length cap, .int .i64 x.part, .int .i64 x.at_, .int .i64 x.why] 29)) #[.int .u8 (x.kind:Int), .int .i64 0, .int .i64 0, .int .i64 0, .int .i64 0, .slice none 0 0, .int .i64 0, .int .i64 0, .int .i64 0] 29 (k:=w.heap.size + 1) (by simp)
   have HBT:=two_below w #[.int .u8 (x.kind:Int), .int .i64 x.n, .int .i64 x.cut, .int .i64 x.too, .int .i64 x.job.par, .slice a x.job.nodes.length cap, .int .i64 x.part, .int .i64 x.at_, .int .i64 x.why] #[.int .u8 (x.kind:Int), .int .i64 0, .int .i64 0, .int .i64 0, .int .i64 0, .slice none 0 0, .int .i64 0, .int .i64 0, .int .i64 0] 29 29
   generalize World.alloc (World.alloc w _) _ = W5 at *
   have c10:=b1.cell 0
   have c16:=b1.cell 6
   have c17:=b1.cell 7
   have c26:=b2.cell 6
   have c27:=b2.cell 7
   have m26:=b2.free 6
   have m27:=b2.free 7
   have hne:w.heap.size ≠ w.heap.size + 1:=by omega
   have hne2:w.heap.size + 1 ≠ w.heap.size:=by omega
   have B1:=Lib.hid b1
   have B2:=Lib.hid b2
   go_region
   all_goals
    have b3:=((B2.out.set 6 (.int .i64 x.part)).set 7 (.int .i64 x.at_)).drew
    have b4:=((B1.out.other (p:=⟨w.heap.size + 1,6,none⟩) hne (.int .i64 x.part)).other (p:=⟨w.heap.size + 1,7,none⟩) hne (.int .i64 x.at_)).drew
    have hb6:=((HBT.setCell (p:=⟨w.heap.size + 1,6,none⟩) (Nat.le_succ _) (.int .i64 x.part)).setCell (p:=⟨w.heap.size + 1,7,none⟩) (Nat.le_succ _) (.int .i64 x.at_)).drew
    clear c10 c16 c26 m26 c17 c27 m27 b1 b2 HBT
    generalize World.drew _ = W6 at *
    have HBT:=hb6
    have c10:=b4.cell 0
    have c11:=b4.cell 1
    have c12:=b4.cell 2
    have c13:=b4.cell 3
    have c14:=b4.cell 4
    have c15:=b4.cell 5
    have c16:=b4.cell 6
    have c17:=b4.cell 7
    have c18:=b4.cell 8
    have c20:=b3.cell 0
    have c21:=b3.cell 1
    have c22:=b3.cell 2
    have c23:=b3.cell 3
    have c24:=b3.cell 4
    have c25:=b3.cell 5
    have c26:=b3.cell 6
    have c27:=b3.cell 7
    have c28:=b3.cell 8
    go_wp2_with fail
    go_ret
    rw [HM.out]
    exact ⟨rfl,HBT⟩
  case true =>
  have HM:Hid (R = SB):=by show _ = _; rw [HME.out]; simp only [t0,t1,t2]; try simp
  go_enter Tryz.func20,Tryz.ntmps20
  go_upto_region 9 with fail
  have b1:=(Blk.new w #[.int .u8 (x.kind:Int), .int .i64 x.n, .int .i64 x.cut, .int .i64 x.too, .int .i64 x.job.par, .slice a x.job.nodes.length cap, .int .i64 x.part, .int .i64 x.at_, .int .i64 x.why] 29).alloc (.cells #[.int .u8 (x.kind:Int), .int .i64 0, .int .i64 0, .int .i64 0, .int .i64 0, .slice none 0 0, .int .i64 0, .int .i64 0, .int .i64 0] 29)
  have b2:=Blk.new_at (w.alloc (.cells #[.int .u8 (x.kind:Int), .int .i64 x.n, .int .i64 x.cut, .int .i64 x.too, .int .i64 x.job.par, .slice a x.job.nodes.length cap, .int .i64 x.part, .int .i64 x.at_, .int .i64 x.why] 29)) #[.int .u8 (x.kind:Int), .int .i64 0, .int .i64 0, .int .i64 0, .int .i64 0, .slice none 0 0, .int .i64 0, .int .i64 0, .int .i64 0] 29 (k:=w.heap.size + 1) (by simp)
  have HBT:=two_below w #[.int .u8 (x.kind:Int), .int .i64 x.n, .int .i64 x.cut, .int .i64 x.too, .int .i64 x.job.par, .slice a x.job.nodes.length cap, .int .i64 x.part, .int .i64 x.at_, .int .i64 x.why] #[.int .u8 (x.kind:Int), .int .i64 0, .int .i64 0, .int .i64 0, .int .i64 0, .slice none 0 0, .int .i64 0, .int .i64 0, .int .i64 0] 29 29
  generalize World.alloc (World.alloc w _) _ = W5 at *
  have c10:=b1.cell 0
  have c16:=b1.cell 6
  have c17:=b1.cell 7
  have c26:=b2.cell 6
  have c27:=b2.cell 7
  have m26:=b2.free 6
  have m27:=b2.free 7
  have hne:w.heap.size ≠ w.heap.size + 1:=by omega
  have hne2:w.heap.size + 1 ≠ w.heap.size:=by omega
  have B1:=Lib.hid b1
  have B2:=Lib.hid b2
  go_region
  all_goals
   have b3:=((B2.out.set 6 (.int .i64 x.part)).set 7 (.int .i64 x.at_)).drew
   have b4:=((B1.out.other (p:=⟨w.heap.size + 1,6,none⟩) hne (.int .i64 x.part)).other (p:=⟨w.heap.size + 1,7,none⟩) hne (.int .i64 x.at_)).drew
   have hb6:=((HBT.setCell (p:=⟨w.heap.size + 1,6,none⟩) (Nat.le_succ _) (.int .i64 x.part)).setCell (p:=⟨w.heap.size + 1,7,none⟩) (Nat.le_succ _) (.int .i64 x.at_)).drew
   clear c10 c16 c26 m26 c17 c27 m27 b1 b2 HBT
   generalize World.drew _ = W6 at *
   have HBT:=hb6
   have c10:=b4.cell 0
   have c11:=b4.cell 1
   have c12:=b4.cell 2
   have c13:=b4.cell 3
   have c14:=b4.cell 4
   have c15:=b4.cell 5
   have c16:=b4.cell 6
   have c17:=b4.cell 7
   have c18:=b4.cell 8
   have c20:=b3.cell 0
   have c21:=b3.cell 1
   have c22:=b3.cell 2
   have c23:=b3.cell 3
   have c24:=b3.cell 4
   have c25:=b3.cell 5
   have c26:=b3.cell 6
   have c27:=b3.cell 7
   have c28:=b3.cell 8
   go_wp2_with (first | (go_at_call 23; refine (HS.out _ HBT).mono ?_; rintro e w9 ⟨rfl,hb9⟩) | fail)
   go_ret
   rw [HM.out]
   exact ⟨rfl,HBT.trans (hb9.mono HBT.size)⟩
 by_cases hk6:x.kind = 6
 ·skip
  have hU:usedOf x = ⟨x.kind,0,0,0,⟨0,[]⟩,0,0,x.why⟩:=by unfold usedOf; rw [if_neg hk1,if_neg hk3,if_pos hk6]
  have hG:goodOf x = decide (0 < x.why):=by unfold goodOf; rw [if_neg hk1,if_neg hk3,if_pos hk6]
  rw [hU,hG] at HME
  have HS:Hid (∀ W:World,Below w.heap.size w W → Calls Tryz.prog 23 #[.agg #[.int .u8 (x.kind:Int), .int .i64 x.n, .int .i64 x.cut, .int .i64 x.too, .int .i64 x.job.par, .slice a x.job.nodes.length cap, .int .i64 x.part, .int .i64 x.at_, .int .i64 x.why], .agg #[.int .u8 (x.kind:Int), .int .i64 0, .int .i64 0, .int .i64 0, .int .i64 0, .slice none 0 0, .int .i64 0, .int .i64 0, .int .i64 x.why]] W fun e w' => e = .returned (.bool (x.sameB ⟨x.kind,0,0,0,⟨0,[]⟩,0,0,x.why⟩)) ∧ Below W.heap.size W w') :=
   fun W hb => roSame_c x ⟨x.kind,0,0,0,⟨0,[]⟩,0,0,x.why⟩ _ _ W P ⟨_,rfl,hn.keep (fun _ k => k) fun b h => hb.block b (hP b h)⟩ ⟨_,rfl,NodesIn.nil _ _⟩ (fun b h => Nat.lt_of_lt_of_le (hP b h) hb.size)
  have k1:((x.kind:Int) == 1) = false:=by rw [beq_eq_false_iff_ne]; omega
  have k3:((x.kind:Int) == 3) = false:=by rw [beq_eq_false_iff_ne]; omega
  have k6:((x.kind:Int) == 6) = true:=by rw [beq_iff_eq]; omega
  have g1:decide ((1:Int) ≤ (x.kind:Int)) = true:=by rw [decide_eq_true_eq]; omega
  have g2:decide ((x.kind:Int) ≤ 6) = true:=by rw [decide_eq_true_eq]; omega
  clear hU hG hn hk1 hk3 hk6
  generalize x.sameB _ = SB at *
  cases t0:decide (0 < x.why)
  case false =>
   have HM:Hid (R = false):=by show _ = _; rw [HME.out]; simp only [t0]; try simp
   go_enter Tryz.func20,Tryz.ntmps20
   go_upto_region 12 with fail
   have b1:=(Blk.new w #[.int .u8 (x.kind:Int), .int .i64 x.n, .int .i64 x.cut, .int .i64 x.too, .int .i64 x.job.par, .slice a x.job.nodes.length cap, .int .i64 x.part, .int .i64 x.at_, .int .i64 x.why] 29).alloc (.cells #[.int .u8 (x.kind:Int), .int .i64 0, .int .i64 0, .int .i64 0, .int .i64 0, .slice none 0 0, .int .i64 0, .int .i64 0, .int .i64 0] 29)
   have b2:=Blk.new_at (w.alloc (.cells #[.int .u8 (x.kind:Int), .int .i64 x.n, .int .i64 x.cut, .int .i64 x.too, .int .i64 x.job.par, .slice a x.job.nodes.length cap, .int .i64 x.part, .int .i64 x.at_, .int .i64 x.why] 29)) #[.int .u8 (x.kind:Int), .int .i64 0, .int .i64 0, .int .i64 0, .int .i64 0, .slice none 0 0, .int .i64 0, .int .i64 0, .int .i64 0] 29 (k:=w.heap.size + 1) (by simp)
   have HBT:=two_below w #[.int .u8 (x.kind:Int), .int .i64 x.n, .int .i64 x.cut, .int .i64 x.too, .int .i64 x.job.par, .slice a x.job.nodes.length cap, .int .i64 x.part, .int .i64 x.at_, .int .i64 x.why] #[.int .u8 (x.kind:Int), .int .i64 0, .int .i64 0, .int .i64 0, .int .i64 0, .slice none 0 0, .int .i64 0, .int .i64 0, .int .i64 0] 29 29
   generalize World.alloc (World.alloc w _) _ = W5 at *
   have c10:=b1.cell 0
   have m28:=b2.free 8
   have hne:w.heap.size ≠ w.heap.size + 1:=by omega
   have hne2:w.heap.size + 1 ≠ w.heap.size:=by omega
   have c18:=b1.cell 8
   have c28:=b2.cell 8
   have B1:=Lib.hid b1
   have B2:=Lib.hid b2
   go_upto_region 13 with fail
   have b3:=B2.out.set 8 (.int .i64 x.why)
   have b4:=B1.out.other (p:=⟨w.heap.size + 1,8,none⟩) hne (.int .i64 x.why)
   have HBT:=HBT.setCell (p:=⟨w.heap.size + 1,8,none⟩) (Nat.le_succ _) (.int .i64 x.why)
   clear c10 c18 c28 m28 b1 b2
   generalize World.setCell W5 _ _ = W6 at *
   have c10:=b4.cell 0
   have c11:=b4.cell 1
   have c12:=b4.cell 2
   have c13:=b4.cell 3
   have c14:=b4.cell 4
   have c15:=b4.cell 5
   have c16:=b4.cell 6
   have c17:=b4.cell 7
   have c18:=b4.cell 8
   have c20:=b3.cell 0
   have c21:=b3.cell 1
   have c22:=b3.cell 2
   have c23:=b3.cell 3
   have c24:=b3.cell 4
   have c25:=b3.cell 5
   have c26:=b3.cell 6
   have c27:=b3.cell 7
   have c28:=b3.cell 8
   go_wp2_with fail
   go_ret
   rw [HM.out]
   exact ⟨rfl,HBT⟩
  case true =>
  have HM:Hid (R = SB):=by show _ = _; rw [HME.out]; simp only [t0]; try simp
  go_enter Tryz.func20,Tryz.ntmps20
  go_upto_region 12 with fail
  have b1:=(Blk.new w #[.int .u8 (x.kind:Int), .int .i64 x.n, .int .i64 x.cut, .int .i64 x.too, .int .i64 x.job.par, .slice a x.job.nodes.length cap, .int .i64 x.part, .int .i64 x.at_, .int .i64 x.why] 29).alloc (.cells #[.int .u8 (x.kind:Int), .int .i64 0, .int .i64 0, .int .i64 0, .int .i64 0, .slice none 0 0, .int .i64 0, .int .i64 0, .int .i64 0] 29)
  have b2:=Blk.new_at (w.alloc (.cells #[.int .u8 (x.kind:Int), .int .i64 x.n, .int .i64 x.cut, .int .i64 x.too, .int .i64 x.job.par, .slice a x.job.nodes.length cap, .int .i64 x.part, .int .i64 x.at_, .int .i64 x.why] 29)) #[.int .u8 (x.kind:Int), .int .i64 0, .int .i64 0, .int .i64 0, .int .i64 0, .slice none 0 0, .int .i64 0, .int .i64 0, .int .i64 0] 29 (k:=w.heap.size + 1) (by simp)
  have HBT:=two_below w #[.int .u8 (x.kind:Int), .int .i64 x.n, .int .i64 x.cut, .int .i64 x.too, .int .i64 x.job.par, .slice a x.job.nodes.length cap, .int .i64 x.part, .int .i64 x.at_, .int .i64 x.why] #[.int .u8 (x.kind:Int), .int .i64 0, .int .i64 0, .int .i64 0, .int .i64 0, .slice none 0 0, .int .i64 0, .int .i64 0, .int .i64 0] 29 29
  generalize World.alloc (World.alloc w _) _ = W5 at *
  have c10:=b1.cell 0
  have m28:=b2.free 8
  have hne:w.heap.size ≠ w.heap.size + 1:=by omega
  have hne2:w.heap.size + 1 ≠ w.heap.size:=by omega
  have c18:=b1.cell 8
  have c28:=b2.cell 8
  have B1:=Lib.hid b1
  have B2:=Lib.hid b2
  go_upto_region 13 with fail
  have b3:=B2.out.set 8 (.int .i64 x.why)
  have b4:=B1.out.other (p:=⟨w.heap.size + 1,8,none⟩) hne (.int .i64 x.why)
  have HBT:=HBT.setCell (p:=⟨w.heap.size + 1,8,none⟩) (Nat.le_succ _) (.int .i64 x.why)
  clear c10 c18 c28 m28 b1 b2
  generalize World.setCell W5 _ _ = W6 at *
  have c10:=b4.cell 0
  have c11:=b4.cell 1
  have c12:=b4.cell 2
  have c13:=b4.cell 3
  have c14:=b4.cell 4
  have c15:=b4.cell 5
  have c16:=b4.cell 6
  have c17:=b4.cell 7
  have c18:=b4.cell 8
  have c20:=b3.cell 0
  have c21:=b3.cell 1
  have c22:=b3.cell 2
  have c23:=b3.cell 3
  have c24:=b3.cell 4
  have c25:=b3.cell 5
  have c26:=b3.cell 6
  have c27:=b3.cell 7
  have c28:=b3.cell 8
  go_wp2_with (first | (go_at_call 23; refine (HS.out _ HBT).mono ?_; rintro e w9 ⟨rfl,hb9⟩) | fail)
  go_ret
  rw [HM.out]
  exact ⟨rfl,HBT.trans (hb9.mono HBT.size)⟩
 by_cases hk0:1 ≤ x.kind
 case neg =>
  have hU:usedOf x = ⟨x.kind,0,0,0,⟨0,[]⟩,0,0,0⟩:=by unfold usedOf; rw [if_neg hk1,if_neg hk3,if_neg hk6]
  have hG:goodOf x = false:=by unfold goodOf; rw [if_neg hk1,if_neg hk3,if_neg hk6]; rw [decide_eq_false hk0]; rfl
  rw [hU,hG] at HME
  have HS:Hid (∀ W:World,Below w.heap.size w W → Calls Tryz.prog 23 #[.agg #[.int .u8 (x.kind:Int), .int .i64 x.n, .int .i64 x.cut, .int .i64 x.too, .int .i64 x.job.par, .slice a x.job.nodes.length cap, .int .i64 x.part, .int .i64 x.at_, .int .i64 x.why], .agg #[.int .u8 (x.kind:Int), .int .i64 0, .int .i64 0, .int .i64 0, .int .i64 0, .slice none 0 0, .int .i64 0, .int .i64 0, .int .i64 0]] W fun e w' => e = .returned (.bool (x.sameB ⟨x.kind,0,0,0,⟨0,[]⟩,0,0,0⟩)) ∧ Below W.heap.size W w') :=
   fun W hb => roSame_c x ⟨x.kind,0,0,0,⟨0,[]⟩,0,0,0⟩ _ _ W P ⟨_,rfl,hn.keep (fun _ k => k) fun b h => hb.block b (hP b h)⟩ ⟨_,rfl,NodesIn.nil _ _⟩ (fun b h => Nat.lt_of_lt_of_le (hP b h) hb.size)
  have k1:((x.kind:Int) == 1) = false:=by rw [beq_eq_false_iff_ne]; omega
  have k3:((x.kind:Int) == 3) = false:=by rw [beq_eq_false_iff_ne]; omega
  have k6:((x.kind:Int) == 6) = false:=by rw [beq_eq_false_iff_ne]; omega
  have g1:decide ((1:Int) ≤ (x.kind:Int)) = false:=by rw [decide_eq_false_iff_not]; omega
  clear hU hG hn hk1 hk3 hk6 hk0
  generalize x.sameB _ = SB at *
  have HM:Hid (R = false):=by show _ = _; rw [HME.out];  try simp
  go_enter Tryz.func20,Tryz.ntmps20
  go_upto_region 3 with fail
  have b1:=(Blk.new w #[.int .u8 (x.kind:Int), .int .i64 x.n, .int .i64 x.cut, .int .i64 x.too, .int .i64 x.job.par, .slice a x.job.nodes.length cap, .int .i64 x.part, .int .i64 x.at_, .int .i64 x.why] 29).alloc (.cells #[.int .u8 (x.kind:Int), .int .i64 0, .int .i64 0, .int .i64 0, .int .i64 0, .slice none 0 0, .int .i64 0, .int .i64 0, .int .i64 0] 29)
  have b2:=Blk.new_at (w.alloc (.cells #[.int .u8 (x.kind:Int), .int .i64 x.n, .int .i64 x.cut, .int .i64 x.too, .int .i64 x.job.par, .slice a x.job.nodes.length cap, .int .i64 x.part, .int .i64 x.at_, .int .i64 x.why] 29)) #[.int .u8 (x.kind:Int), .int .i64 0, .int .i64 0, .int .i64 0, .int .i64 0, .slice none 0 0, .int .i64 0, .int .i64 0, .int .i64 0] 29 (k:=w.heap.size + 1) (by simp)
  have HBT:=two_below w #[.int .u8 (x.kind:Int), .int .i64 x.n, .int .i64 x.cut, .int .i64 x.too, .int .i64 x.job.par, .slice a x.job.nodes.length cap, .int .i64 x.part, .int .i64 x.at_, .int .i64 x.why] #[.int .u8 (x.kind:Int), .int .i64 0, .int .i64 0, .int .i64 0, .int .i64 0, .slice none 0 0, .int .i64 0, .int .i64 0, .int .i64 0] 29 29
  generalize World.alloc (World.alloc w _) _ = W5 at *
  have c10:=b1.cell 0
  have c11:=b1.cell 1
  have c12:=b1.cell 2
  have c13:=b1.cell 3
  have c14:=b1.cell 4
  have c15:=b1.cell 5
  have c16:=b1.cell 6
  have c17:=b1.cell 7
  have c18:=b1.cell 8
  have c20:=b2.cell 0
  have c21:=b2.cell 1
  have c22:=b2.cell 2
  have c23:=b2.cell 3
  have c24:=b2.cell 4
  have c25:=b2.cell 5
  have c26:=b2.cell 6
  have c27:=b2.cell 7
  have c28:=b2.cell 8
  go_wp2_with fail
  go_ret
  rw [HM.out]
  exact ⟨rfl,HBT⟩
 by_cases hk7:x.kind ≤ 6
 ·skip
  have hU:usedOf x = ⟨x.kind,0,0,0,⟨0,[]⟩,0,0,0⟩:=by unfold usedOf; rw [if_neg hk1,if_neg hk3,if_neg hk6]
  have hG:goodOf x = true:=by unfold goodOf; rw [if_neg hk1,if_neg hk3,if_neg hk6]; rw [decide_eq_true hk0,decide_eq_true hk7]; rfl
  rw [hU,hG] at HME
  have HS:Hid (∀ W:World,Below w.heap.size w W → Calls Tryz.prog 23 #[.agg #[.int .u8 (x.kind:Int), .int .i64 x.n, .int .i64 x.cut, .int .i64 x.too, .int .i64 x.job.par, .slice a x.job.nodes.length cap, .int .i64 x.part, .int .i64 x.at_, .int .i64 x.why], .agg #[.int .u8 (x.kind:Int), .int .i64 0, .int .i64 0, .int .i64 0, .int .i64 0, .slice none 0 0, .int .i64 0, .int .i64 0, .int .i64 0]] W fun e w' => e = .returned (.bool (x.sameB ⟨x.kind,0,0,0,⟨0,[]⟩,0,0,0⟩)) ∧ Below W.heap.size W w') :=
   fun W hb => roSame_c x ⟨x.kind,0,0,0,⟨0,[]⟩,0,0,0⟩ _ _ W P ⟨_,rfl,hn.keep (fun _ k => k) fun b h => hb.block b (hP b h)⟩ ⟨_,rfl,NodesIn.nil _ _⟩ (fun b h => Nat.lt_of_lt_of_le (hP b h) hb.size)
  have k1:((x.kind:Int) == 1) = false:=by rw [beq_eq_false_iff_ne]; omega
  have k3:((x.kind:Int) == 3) = false:=by rw [beq_eq_false_iff_ne]; omega
  have k6:((x.kind:Int) == 6) = false:=by rw [beq_eq_false_iff_ne]; omega
  have g1:decide ((1:Int) ≤ (x.kind:Int)) = true:=by rw [decide_eq_true_eq]; omega
  have g2:decide ((x.kind:Int) ≤ 6) = true:=by rw [decide_eq_true_eq]; omega
  clear hU hG hn hk1 hk3 hk6 hk0 hk7
  generalize x.sameB _ = SB at *
  have HM:Hid (R = SB):=by show _ = _; rw [HME.out];  try simp
  go_enter Tryz.func20,Tryz.ntmps20
  go_upto_region 3 with fail
  have b1:=(Blk.new w #[.int .u8 (x.kind:Int), .int .i64 x.n, .int .i64 x.cut, .int .i64 x.too, .int .i64 x.job.par, .slice a x.job.nodes.length cap, .int .i64 x.part, .int .i64 x.at_, .int .i64 x.why] 29).alloc (.cells #[.int .u8 (x.kind:Int), .int .i64 0, .int .i64 0, .int .i64 0, .int .i64 0, .slice none 0 0, .int .i64 0, .int .i64 0, .int .i64 0] 29)
  have b2:=Blk.new_at (w.alloc (.cells #[.int .u8 (x.kind:Int), .int .i64 x.n, .int .i64 x.cut, .int .i64 x.too, .int .i64 x.job.par, .slice a x.job.nodes.length cap, .int .i64 x.part, .int .i64 x.at_, .int .i64 x.why] 29)) #[.int .u8 (x.kind:Int), .int .i64 0, .int .i64 0, .int .i64 0, .int .i64 0, .slice none 0 0, .int .i64 0, .int .i64 0, .int .i64 0] 29 (k:=w.heap.size + 1) (by simp)
  have HBT:=two_below w #[.int .u8 (x.kind:Int), .int .i64 x.n, .int .i64 x.cut, .int .i64 x.too, .int .i64 x.job.par, .slice a x.job.nodes.length cap, .int .i64 x.part, .int .i64 x.at_, .int .i64 x.why] #[.int .u8 (x.kind:Int), .int .i64 0, .int .i64 0, .int .i64 0, .int .i64 0, .slice none 0 0, .int .i64 0, .int .i64 0, .int .i64 0] 29 29
  generalize World.alloc (World.alloc w _) _ = W5 at *
  have c10:=b1.cell 0
  have c11:=b1.cell 1
  have c12:=b1.cell 2
  have c13:=b1.cell 3
  have c14:=b1.cell 4
  have c15:=b1.cell 5
  have c16:=b1.cell 6
  have c17:=b1.cell 7
  have c18:=b1.cell 8
  have c20:=b2.cell 0
  have c21:=b2.cell 1
  have c22:=b2.cell 2
  have c23:=b2.cell 3
  have c24:=b2.cell 4
  have c25:=b2.cell 5
  have c26:=b2.cell 6
  have c27:=b2.cell 7
  have c28:=b2.cell 8
  go_wp2_with (first | (go_at_call 23; refine (HS.out _ HBT).mono ?_; rintro e w9 ⟨rfl,hb9⟩) | fail)
  go_ret
  rw [HM.out]
  exact ⟨rfl,HBT.trans (hb9.mono HBT.size)⟩
 ·skip
  have hU:usedOf x = ⟨x.kind,0,0,0,⟨0,[]⟩,0,0,0⟩:=by unfold usedOf; rw [if_neg hk1,if_neg hk3,if_neg hk6]
  have hG:goodOf x = false:=by unfold goodOf; rw [if_neg hk1,if_neg hk3,if_neg hk6]; rw [decide_eq_true hk0,decide_eq_false hk7]; rfl
  rw [hU,hG] at HME
  have HS:Hid (∀ W:World,Below w.heap.size w W → Calls Tryz.prog 23 #[.agg #[.int .u8 (x.kind:Int), .int .i64 x.n, .int .i64 x.cut, .int .i64 x.too, .int .i64 x.job.par, .slice a x.job.nodes.length cap, .int .i64 x.part, .int .i64 x.at_, .int .i64 x.why], .agg #[.int .u8 (x.kind:Int), .int .i64 0, .int .i64 0, .int .i64 0, .int .i64 0, .slice none 0 0, .int .i64 0, .int .i64 0, .int .i64 0]] W fun e w' => e = .returned (.bool (x.sameB ⟨x.kind,0,0,0,⟨0,[]⟩,0,0,0⟩)) ∧ Below W.heap.size W w') :=
   fun W hb => roSame_c x ⟨x.kind,0,0,0,⟨0,[]⟩,0,0,0⟩ _ _ W P ⟨_,rfl,hn.keep (fun _ k => k) fun b h => hb.block b (hP b h)⟩ ⟨_,rfl,NodesIn.nil _ _⟩ (fun b h => Nat.lt_of_lt_of_le (hP b h) hb.size)
  have k1:((x.kind:Int) == 1) = false:=by rw [beq_eq_false_iff_ne]; omega
  have k3:((x.kind:Int) == 3) = false:=by rw [beq_eq_false_iff_ne]; omega
  have k6:((x.kind:Int) == 6) = false:=by rw [beq_eq_false_iff_ne]; omega
  have g1:decide ((1:Int) ≤ (x.kind:Int)) = true:=by rw [decide_eq_true_eq]; omega
  have g2:decide ((x.kind:Int) ≤ 6) = false:=by rw [decide_eq_false_iff_not]; omega
  clear hU hG hn hk1 hk3 hk6 hk0 hk7
  generalize x.sameB _ = SB at *
  have HM:Hid (R = false):=by show _ = _; rw [HME.out];  try simp
  go_enter Tryz.func20,Tryz.ntmps20
  go_upto_region 3 with fail
  have b1:=(Blk.new w #[.int .u8 (x.kind:Int), .int .i64 x.n, .int .i64 x.cut, .int .i64 x.too, .int .i64 x.job.par, .slice a x.job.nodes.length cap, .int .i64 x.part, .int .i64 x.at_, .int .i64 x.why] 29).alloc (.cells #[.int .u8 (x.kind:Int), .int .i64 0, .int .i64 0, .int .i64 0, .int .i64 0, .slice none 0 0, .int .i64 0, .int .i64 0, .int .i64 0] 29)
  have b2:=Blk.new_at (w.alloc (.cells #[.int .u8 (x.kind:Int), .int .i64 x.n, .int .i64 x.cut, .int .i64 x.too, .int .i64 x.job.par, .slice a x.job.nodes.length cap, .int .i64 x.part, .int .i64 x.at_, .int .i64 x.why] 29)) #[.int .u8 (x.kind:Int), .int .i64 0, .int .i64 0, .int .i64 0, .int .i64 0, .slice none 0 0, .int .i64 0, .int .i64 0, .int .i64 0] 29 (k:=w.heap.size + 1) (by simp)
  have HBT:=two_below w #[.int .u8 (x.kind:Int), .int .i64 x.n, .int .i64 x.cut, .int .i64 x.too, .int .i64 x.job.par, .slice a x.job.nodes.length cap, .int .i64 x.part, .int .i64 x.at_, .int .i64 x.why] #[.int .u8 (x.kind:Int), .int .i64 0, .int .i64 0, .int .i64 0, .int .i64 0, .slice none 0 0, .int .i64 0, .int .i64 0, .int .i64 0] 29 29
  generalize World.alloc (World.alloc w _) _ = W5 at *
  have c10:=b1.cell 0
  have c11:=b1.cell 1
  have c12:=b1.cell 2
  have c13:=b1.cell 3
  have c14:=b1.cell 4
  have c15:=b1.cell 5
  have c16:=b1.cell 6
  have c17:=b1.cell 7
  have c18:=b1.cell 8
  have c20:=b2.cell 0
  have c21:=b2.cell 1
  have c22:=b2.cell 2
  have c23:=b2.cell 3
  have c24:=b2.cell 4
  have c25:=b2.cell 5
  have c26:=b2.cell 6
  have c27:=b2.cell 7
  have c28:=b2.cell 8
  go_wp2_with fail
  go_ret
  rw [HM.out]
  exact ⟨rfl,HBT⟩
end Go.Proofs.YtpkijdkoiecpiaaGreatDoor
