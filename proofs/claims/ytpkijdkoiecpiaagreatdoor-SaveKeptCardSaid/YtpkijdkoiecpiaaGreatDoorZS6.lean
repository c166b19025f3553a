/-
  Parts of the proof: H1.
-/
import Derived.Test.YtpkijdkoiecpiaaGreatDoorZS2
import Derived.Test.YtpkijdkoiecpiaaGreatDoorZS3
import Derived.Test.YtpkijdkoiecpiaaGreatDoorZS5
namespace Go.Proofs.YtpkijdkoiecpiaaGreatDoor
open Go.RowKit
set_option linter.unusedVariables false
set_option linter.unusedSimpArgs false
theorem grp_tmod (k:Int):grp k = if k.tmod 8 < 0 then k.tmod 8 + 8 else k.tmod 8:=by
 unfold grp
 rw [Int.tmod_eq_emod]
 split <;> split <;> omega
theorem grpOf_c (k:Int) (w:World):Calls Tryz.prog 201 #[.int .i64 k] w fun e w' => e = .returned (.int .i64 (grp k)) ∧ w = w':=by
 have hg:=grp_tmod k
 have h1 : -8 < k.tmod 8 ∧ k.tmod 8 < 8:=⟨Int.lt_tmod_of_pos k (by decide),Int.tmod_lt_of_pos k (by decide)⟩
 have hw:IntKind.i64.wrap (k.tmod 8 + 8) = k.tmod 8 + 8:=IntWalk.i64_in _ (by omega)
 go_enter Tryz.func201,Tryz.ntmps201
 go_wp2
 all_goals
  go_ret
  exact ⟨ret_int (by rw [hg]; split <;> omega),rfl⟩
theorem isNaN_c (k:Int) (w:World):Calls Tryz.prog 263 #[.int .i64 k] w fun e w' => e = .returned (.bool false) ∧ w = w':=by
 go_enter Tryz.func263,Tryz.ntmps263
 go_wp2
 go_ret
 exact ⟨ret_bool (by simp),rfl⟩
theorem isNaN64_c (k:Int) (w:World):Calls Tryz.prog 264 #[.int .i64 k] w fun e w' => e = .returned (.bool false) ∧ w = w':=by
 go_enter Tryz.func264,Tryz.ntmps264
 go_wp2
 go_ret
 exact ⟨ret_bool (by simp),rfl⟩
def cmpI (a b:Int):Int:=if a < b then -1 else if b < a then 1 else 0
theorem Compare_c (a b:Int) (w:World):Calls Tryz.prog 232 #[.int .i64 a, .int .i64 b] w fun e w' => e = .returned (.int .i64 (cmpI a b)) ∧ w = w':=by
 go_enter Tryz.func232,Tryz.ntmps232
 go_wp2_with (first | (go_at_call 263; refine (isNaN_c _ _).mono ?_; rintro e w1 ⟨rfl,rfl⟩) | fail)
 all_goals
  go_ret
  exact ⟨ret_int (by unfold cmpI; (repeat' split) <;> omega),rfl⟩
theorem Compare64_c (a b:Int) (w:World):Calls Tryz.prog 233 #[.int .i64 a, .int .i64 b] w fun e w' => e = .returned (.int .i64 (cmpI a b)) ∧ w = w':=by
 go_enter Tryz.func233,Tryz.ntmps233
 go_wp2_with (first | (go_at_call 264; refine (isNaN64_c _ _).mono ?_; rintro e w1 ⟨rfl,rfl⟩) | fail)
 all_goals
  go_ret
  exact ⟨ret_int (by unfold cmpI; (repeat' split) <;> omega),rfl⟩
def orI (a b:Int):Int:=if a ≠ 0 then a else b
set_option maxHeartbeats 1000000 in
theorem Or_c (a b:Int) (B:Nat) (w:World) (h:Blk w B 3 #[.int .i64 a, .int .i64 b]):Calls Tryz.prog 231 #[.slice (some ⟨B,0,none⟩) 2 2] w fun e w' => e = .returned (.int .i64 (orI a b)) ∧ w = w':=by
 have c0:=h.cell 0
 have c1:=h.cell 1
 have HE:Hid (orI a b = if a ≠ 0 then a else b):=rfl
 generalize orI a b = R at *
 go_enter Tryz.func231,Tryz.ntmps231
 go_wp2_with fail
 refine wp_loop_rounds 3 ?_
 rw [rounds_succ]
 by_cases ha:a = 0
 ·have e0:(a != 0) = false:=by simpa using ha
  have HE2:Hid (R = b):=by show _ = _; rw [HE.out,if_neg (by simpa using ha)]
  clear ha HE
  go_wp2_with fail
  rw [rounds_succ]
  by_cases hb:b = 0
  ·have e1:(b != 0) = false:=by simpa using hb
   have HB:=Lib.hid hb
   clear hb
   go_wp2_with fail
   rw [rounds_succ]
   go_wp2_with fail
   go_ret
   exact ⟨ret_int (by rw [HE2.out,HB.out]),rfl⟩
  ·have e1:(b != 0) = true:=by simpa using hb
   clear hb
   go_wp2_with fail
   go_ret
   exact ⟨ret_int HE2.out.symm,rfl⟩
 ·have e0:(a != 0) = true:=by simpa using ha
  have HE2:Hid (R = a):=by show _ = _; rw [HE.out,if_pos ha]
  clear ha HE
  go_wp2_with fail
  go_ret
  exact ⟨ret_int HE2.out.symm,rfl⟩
theorem bef_or (a b:Int):bef a b = orI (cmpI (grp a) (grp b)) (cmpI a b):=by
 unfold bef orI cmpI
 repeat' split
 all_goals first | rfl | omega
set_option maxHeartbeats 1000000 in
theorem before_g (a b:Int) (w:World):Calls Tryz.prog 199 #[.int .i64 a, .int .i64 b] w fun e w' => e = .returned (.int .i64 (bef a b)) ∧ ∃ o,w' = w.alloc o:=by
 rw [bef_or]
 generalize hx:cmpI (grp a) (grp b) = x
 generalize hy:cmpI a b = y
 have HX:=Lib.hid hx
 have HY:=Lib.hid hy
 have HB:Hid (∀ W:World,Blk (W.alloc (.cells #[.int .i64 x, .int .i64 y] 3)) W.heap.size 3 #[.int .i64 x, .int .i64 y]):=fun W => Blk.new W _ _
 clear hx hy
 go_enter Tryz.func199,Tryz.ntmps199
 go_wp2_with (first
  | (go_at_call 201; refine (grpOf_c _ _).mono ?_; rintro e w1 ⟨rfl,rfl⟩)
  | (go_at_call 232; refine (Compare_c _ _ _).mono ?_; rintro e w1 ⟨rfl,rfl⟩; rw [HX.out])
  | (go_at_call 233; refine (Compare64_c _ _ _).mono ?_; rintro e w1 ⟨rfl,rfl⟩; rw [HY.out])
  | (go_at_call 231; refine (Or_c x y _ _ (HB.out _)).mono ?_; rintro e w1 ⟨rfl,rfl⟩)
  | fail)
 go_ret
 exact ⟨rfl,_,rfl⟩
theorem before_c (a b:Int) (w:World):Calls Tryz.prog 199 #[.int .i64 a, .int .i64 b] w fun e w' => e = .returned (.int .i64 (bef a b)) ∧ Below w.heap.size w w':=by
 refine (before_g a b w).mono ?_
 rintro e w1 ⟨rfl,o,rfl⟩
 exact ⟨rfl,(Below.refl _ _).alloc (Nat.le_refl _) _⟩
theorem New_t (w:World):Calls Tryz.prog 159 #[] w fun e w' => e = .returned (px (w.heap.size + 1)) ∧ Below w.heap.size w w' ∧ w'.heap.size = w.heap.size + 2 ∧ Blk w' (w.heap.size + 1) 278 #[.map (some w.heap.size)] ∧ MapI w' .i64 w.heap.size []:=by
 go_enter Tryz.func159,Tryz.ntmps159
 go_wp2_with (first | (refine wpList_makeMapI _ _ rfl rfl .i64 ?_; intro hm) | fail)
 go_ret
 exact ⟨rfl,((Below.refl _ _).alloc (Nat.le_refl _) _).alloc (by simp) _,by simp,Blk.new_at _ _ _ (by simp),hm.alloc _⟩
def cntK (kv:List (Int × Value)) (g:Int):Nat:=(kv.filter fun p => grp p.1 == g).length
theorem cntK_perm {a b:List (Int × Value)} (h:a.Perm b) (g:Int):cntK a g = cntK b g:=(h.filter _).length_eq
theorem cntK_cons (p:Int × Value) (l:List (Int × Value)) (g:Int):cntK (p :: l) g = (if grp p.1 == g then 1 else 0) + cntK l g:=by
 unfold cntK
 rw [List.filter_cons]
 split <;> simp <;> omega
theorem cntK_le (l:List (Int × Value)) (g:Int):cntK l g ≤ l.length:=List.length_filter_le _ _
set_option maxHeartbeats 1000000 in
theorem tmany_c (T B:Nat) (kv:List (Int × Value)) (g:Int) (w:World) (hT:Blk w T 278 #[.map (some B)]) (hm:MapI w .i64 B kv) (hk:kv.length ≤ 1000000) :
  Calls Tryz.prog 200 #[px T, .int .i64 g] w fun e w' => e = .returned (.int .i64 (cntK kv g:Nat)) ∧ Below w.heap.size w w':=by
 have c0:=hT.cell 0
 have HM:=Lib.hid hm
 unfold px
 go_enter Tryz.func200,Tryz.ntmps200
 go_wp2_with (first | (at_range; refine wpList_rangeI _ _ 2 274 Tryz.underlying276 rfl _ rfl B kv rfl hm ?_; intro w1 hrg1 hb1 hs1) | fail)
 go_frame
 go_loopw [5] (fun n wr => ∃ (left:List (Int × Value)) (m:Nat),n = .int .i64 (m:Int) ∧ RgI wr .i64 B w.heap.size kv left ∧ m + cntK left g = cntK kv g ∧ m ≤ 1000000 ∧ Below w.heap.size w wr) (fun _ wr => rgLeft wr B w.heap.size)
 case atStart => exact ⟨kv,0,rfl,hrg1,Nat.zero_add _,Nat.zero_le _,hb1⟩
 case round =>
  obtain ⟨left,m,rfl,hrg,hc,hm6,hb⟩:=hrel
  go_wp2_with (first | (at_next; refine wpList_nextI _ rfl _ rfl B w.heap.size kv left rfl hrg ?_ ?_) | fail)
  ·intro h0
   subst h0
   go_wp2_with fail
   go_ret
   exact ⟨by rw [← hc]; rfl,hb⟩
  ·intro x v l2 w2 hp hm2 hrg2 hf2 hs2 hen
   have hcc:=cntK_perm hp g
   rw [cntK_cons] at hcc
   have hlt:=hrg2.left
   have hlo:=hrg.left
   have hpl:=hp.length_eq
   rw [List.length_cons] at hpl
   have hle:=cntK_le kv g
   have hb2:=hb.trans (hf2.below (B:=w.heap.size) hb.size (fun k hk e => by omega))
   by_cases hx:grp x = g
   ·have e0:(grp x == g) = true:=by simpa using hx
    rw [if_pos e0] at hcc
    have HCC:=Lib.hid hcc
    have HC:=Lib.hid hc
    clear hcc hc hx
    go_wp2_with (first | (go_at_call 201; refine (grpOf_c _ _).mono ?_; rintro e w3 ⟨rfl,rfl⟩) | fail)
    go_roundw
    case rel => exact ⟨l2,m + 1,by go_num,hrg2,by have:=HCC.out; have:=HC.out; omega,by have:=HCC.out; have:=HC.out; omega,hb2⟩
    case measure => omega
   ·have e0:(grp x == g) = false:=by simpa using hx
    rw [if_neg (by rw [e0]; decide)] at hcc
    have HCC:=Lib.hid hcc
    have HC:=Lib.hid hc
    clear hcc hc hx
    go_wp2_with (first | (go_at_call 201; refine (grpOf_c _ _).mono ?_; rintro e w3 ⟨rfl,rfl⟩) | fail)
    go_roundw
    case rel => exact ⟨l2,m,rfl,hrg2,by have:=HCC.out; have:=HC.out; omega,hm6,hb2⟩
    case measure => omega
end Go.Proofs.YtpkijdkoiecpiaaGreatDoor
