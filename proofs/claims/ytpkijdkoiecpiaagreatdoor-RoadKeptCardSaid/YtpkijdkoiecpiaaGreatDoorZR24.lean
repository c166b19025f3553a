/-
  Parts of the proof: PD PE PF.
-/
import Derived.Test.YtpkijdkoiecpiaaGreatDoorZR8
import Derived.Test.YtpkijdkoiecpiaaGreatDoorZR20
import Derived.Test.YtpkijdkoiecpiaaGreatDoorZR22
import Derived.Test.YtpkijdkoiecpiaaGreatDoorZR23
namespace Go.Proofs.YtpkijdkoiecpiaaGreatDoor
open Go.RowKit
set_option linter.unusedVariables false
set_option linter.unusedSimpArgs false
def stC (x:St) (sv:Value):Array Value:=#[.int .u8 (x.kind:Int), .int .i64 x.n, .int .i64 x.cut, .int .i64 x.too, .int .i64 x.job.par,sv, .int .i64 x.part, .int .i64 x.at_, .int .i64 x.why]
def StIn (w:World) (P:Nat → Prop) (v:Value) (x:St):Prop:=∃ sv,v = .agg (stC x sv) ∧ NodesIn w P x.job.nodes sv
theorem StIn.keep {w w':World} {P Q:Nat → Prop} {v:Value} {x:St} (h:StIn w P v x) (hPQ:∀ b,P b → Q b) (hk:∀ b,P b → w'.heap[b]? = w.heap[b]?):StIn w' Q v x:=let ⟨sv,h1,h2⟩:=h; ⟨sv,h1,h2.keep hPQ hk⟩
theorem two_below (w:World) (c1 c2:Array Value) (t1 t2:TypeId):Below w.heap.size w ((w.alloc (.cells c1 t1)).alloc (.cells c2 t2)):=((Below.refl w.heap.size w).alloc (Nat.le_refl _) _).alloc (by simp) _
set_option maxRecDepth 100000 in
set_option maxHeartbeats 4000000 in
theorem roSame_c (x y:St) (v u:Value) (w:World) (P:Nat → Prop) (hv:StIn w P v x) (hu:StIn w P u y) (hP:∀ b,P b → b < w.heap.size) :
  Calls Tryz.prog 23 #[v,u] w fun e w' => e = .returned (.bool (x.sameB y)) ∧ Below w.heap.size w w':=by
 obtain ⟨sv,rfl,hn⟩:=hv
 obtain ⟨tv,rfl,hm⟩:=hu
 have HJ:Hid (∀ W:World,Below w.heap.size w W → Calls Tryz.prog 66 #[.agg #[.int .i64 x.job.par,sv], .agg #[.int .i64 y.job.par,tv]] W fun e w' => e = .returned (.bool (x.job.sameB y.job)) ∧ Below W.heap.size W w') :=
  fun W hb => JSame_c x.job y.job _ _ w.heap.size W ⟨_,rfl,(hn.toAt hP).keep hb⟩ ⟨_,rfl,(hm.toAt hP).keep hb⟩ hb.size
 obtain ⟨a,cap,rfl, -, -⟩:=hn.slice
 obtain ⟨a',cap',rfl, -, -⟩:=hm.slice
 have HE:Hid (x.sameB y = (x.kind == y.kind && (x.n == y.n && (x.cut == y.cut && (x.too == y.too && (x.part == y.part && (x.at_ == y.at_ && (x.why == y.why && x.job.sameB y.job)))))))):=rfl
 have HK:Hid ((x.kind == y.kind) = ((x.kind:Int) == (y.kind:Int))):=by
  show _ = _
  by_cases h:x.kind = y.kind
  ·rw [h]; simp
  ·have h2 : ¬ (x.kind:Int) = (y.kind:Int):=by omega
   rw [beq_eq_false_iff_ne.2 h,beq_eq_false_iff_ne.2 h2]
 generalize x.sameB y = R at *
 unfold stC
 clear hn hm
 by_cases h0:(x.kind:Int) = (y.kind:Int)
 case neg =>
  have e0:((x.kind:Int) == (y.kind:Int)) = false:=by rw [beq_eq_false_iff_ne]; exact h0
  have hR:Hid (R = false):=by show _ = _; rw [HE.out,HK.out]; simp only [e0,Bool.and_false,Bool.false_and]
  clear HE HK HJ h0
  go_enter Tryz.func23,Tryz.ntmps23
  go_wp2_with fail
  go_ret
  rw [hR.out]
  exact ⟨rfl,two_below w _ _ _ _⟩
 have e0:((x.kind:Int) == (y.kind:Int)) = true:=by rw [beq_iff_eq]; exact h0
 clear h0
 by_cases h1:x.n = y.n
 case neg =>
  have e1:(x.n == y.n) = false:=by rw [beq_eq_false_iff_ne]; exact h1
  have hR:Hid (R = false):=by show _ = _; rw [HE.out,HK.out]; simp only [e1,Bool.and_false,Bool.false_and]
  clear HE HK HJ h1
  go_enter Tryz.func23,Tryz.ntmps23
  go_wp2_with fail
  go_ret
  rw [hR.out]
  exact ⟨rfl,two_below w _ _ _ _⟩
 have e1:(x.n == y.n) = true:=by rw [beq_iff_eq]; exact h1
 clear h1
 by_cases h2:x.cut = y.cut
 case neg =>
  have e2:(x.cut == y.cut) = false:=by rw [beq_eq_false_iff_ne]; exact h2
  have hR:Hid (R = false):=by show _ = _; rw [HE.out,HK.out]; simp only [e2,Bool.and_false,Bool.false_and]
  clear HE HK HJ h2
  go_enter Tryz.func23,Tryz.ntmps23
  go_wp2_with fail
  go_ret
  rw [hR.out]
  exact ⟨rfl,two_below w _ _ _ _⟩
 have e2:(x.cut == y.cut) = true:=by rw [beq_iff_eq]; exact h2
 clear h2
 by_cases h3:x.too = y.too
 case neg =>
  have e3:(x.too == y.too) = false:=by rw [beq_eq_false_iff_ne]; exact h3
  have hR:Hid (R = false):=by show _ = _; rw [HE.out,HK.out]; simp only [e3,Bool.and_false,Bool.false_and]
  clear HE HK HJ h3
  go_enter Tryz.func23,Tryz.ntmps23
  go_wp2_with fail
  go_ret
  rw [hR.out]
  exact ⟨rfl,two_below w _ _ _ _⟩
 have e3:(x.too == y.too) = true:=by rw [beq_iff_eq]; exact h3
 clear h3
 by_cases h4:x.part = y.part
 case neg =>
  have e4:(x.part == y.part) = false:=by rw [beq_eq_false_iff_ne]; exact h4
  have hR:Hid (R = false):=by show _ = _; rw [HE.out,HK.out]; simp only [e4,Bool.and_false,Bool.false_and]
  clear HE HK HJ h4
  go_enter Tryz.func23,Tryz.ntmps23
  go_wp2_with fail
  go_ret
  rw [hR.out]
  exact ⟨rfl,two_below w _ _ _ _⟩
 have e4:(x.part == y.part) = true:=by rw [beq_iff_eq]; exact h4
 clear h4
 by_cases h5:x.at_ = y.at_
 case neg =>
  have e5:(x.at_ == y.at_) = false:=by rw [beq_eq_false_iff_ne]; exact h5
  have hR:Hid (R = false):=by show _ = _; rw [HE.out,HK.out]; simp only [e5,Bool.and_false,Bool.false_and]
  clear HE HK HJ h5
  go_enter Tryz.func23,Tryz.ntmps23
  go_wp2_with fail
  go_ret
  rw [hR.out]
  exact ⟨rfl,two_below w _ _ _ _⟩
 have e5:(x.at_ == y.at_) = true:=by rw [beq_iff_eq]; exact h5
 clear h5
 by_cases h6:x.why = y.why
 case neg =>
  have e6:(x.why == y.why) = false:=by rw [beq_eq_false_iff_ne]; exact h6
  have hR:Hid (R = false):=by show _ = _; rw [HE.out,HK.out]; simp only [e6,Bool.and_false,Bool.false_and]
  clear HE HK HJ h6
  go_enter Tryz.func23,Tryz.ntmps23
  go_wp2_with fail
  go_ret
  rw [hR.out]
  exact ⟨rfl,two_below w _ _ _ _⟩
 have e6:(x.why == y.why) = true:=by rw [beq_iff_eq]; exact h6
 clear h6
 have hR:Hid (R = x.job.sameB y.job):=by show _ = _; rw [HE.out,HK.out]; simp only [e0,e1,e2,e3,e4,e5,e6,Bool.true_and]
 have HJ2:=Lib.hid (HJ.out _ (two_below w #[.int .u8 (x.kind:Int), .int .i64 x.n, .int .i64 x.cut, .int .i64 x.too, .int .i64 x.job.par, .slice a x.job.nodes.length cap, .int .i64 x.part, .int .i64 x.at_, .int .i64 x.why]
  #[.int .u8 (y.kind:Int), .int .i64 y.n, .int .i64 y.cut, .int .i64 y.too, .int .i64 y.job.par, .slice a' y.job.nodes.length cap', .int .i64 y.part, .int .i64 y.at_, .int .i64 y.why] 29 29))
 clear HE HK HJ
 go_enter Tryz.func23,Tryz.ntmps23
 go_wp2_with (first | (go_at_call 66; refine HJ2.out.mono ?_; rintro e w3 ⟨rfl,hb3⟩) | fail)
 go_ret
 rw [hR.out]
 exact ⟨rfl,(two_below w _ _ _ _).trans (hb3.mono (two_below w _ _ _ _).size)⟩
set_option maxHeartbeats 400000 in
theorem IndexU8_c (l:List Int) (n:Nat) (v:Value) (x:Int) (B:Nat) (w:World) (h:Sl w B 1 v n (l.map (Value.int .u8))) (hn:l.length = n) :
  Calls Tryz.prog 65 #[v, .int .u8 x] w fun e w' => e = .returned (.int .i64 (idxZ (fun y => x == y) l 0)) ∧ w = w':=by
 obtain ⟨_,a,cap,rfl,hc,hm,_⟩:=id h
 have H:=Lib.hid h
 have HN:=Lib.hid hn
 have hnm:n ≤ 9223372036854775807:=by unfold maxLen at hm; omega
 clear h hn
 rename_i hx1 hx2
 clear hx1 hx2
 go_enter Tryz.func65,Tryz.ntmps65
 go_wp2
 go_loop [8] (fun q => ∃ k:Nat,q = .int .i64 k ∧ k ≤ n ∧ idxZ (fun y => x == y) (l.drop k) k = idxZ (fun y => x == y) l 0) (fun q => n - (intOf q).toNat)
 case atStart => exact ⟨0,rfl,Nat.zero_le _,rfl⟩
 case round =>
  obtain ⟨k,rfl,hk,hr⟩:=hrel
  by_cases hlt:k < n
  ·obtain ⟨b,off,cp,e1,hb,g1,p0⟩:=H.out.int k hlt
   simp only [Value.slice.injEq,true_and] at e1
   obtain ⟨rfl,rfl⟩:=e1
   rw [List.drop_eq_getElem_cons g1] at hr
   generalize l[k] = y at *
   simp only [idxZ] at hr
   have HR:=Lib.hid hr
   clear hr
   cases hxy:(x == y)
   all_goals
    have HXY:=Lib.hid hxy
    go_wp2
   ·go_round
    case rel => exact ⟨k + 1,by go_num,by omega,by rw [← HR.out,HXY.out]; rfl⟩
    case measure => simp [intOf]; omega
   ·go_ret
    exact ⟨ret_int (by rw [← HR.out,HXY.out]; rfl),rfl⟩
  ·rw [List.drop_of_length_le (by have:=HN.out; omega)] at hr
   have HR:=Lib.hid hr
   clear hr
   go_wp2
   go_ret
   exact ⟨ret_int (by rw [← HR.out]; rfl),rfl⟩
set_option maxHeartbeats 400000 in
theorem ContainsU8_c (l:List Int) (n:Nat) (v:Value) (x:Int) (B:Nat) (w:World) (h:Sl w B 1 v n (l.map (Value.int .u8))) (hn:l.length = n) :
  Calls Tryz.prog 21 #[v, .int .u8 x] w fun e w' => e = .returned (.bool (l.any (fun y => x == y))) ∧ w = w':=by
 have hz:=idxZ_nonneg (fun y => x == y) l 0
 cases ha:l.any (fun y => x == y)
 all_goals
  rw [ha] at hz
  have HZ:=Lib.hid hz
  clear hz ha
  go_enter Tryz.func21,Tryz.ntmps21
  go_wp2_with (go_at_call 65; refine (IndexU8_c l n v x B w h hn).mono ?_; rintro e w1 ⟨rfl,rfl⟩; generalize idxZ (fun y => x == y) l 0 = z at *)
  go_ret
  exact ⟨ret_bool (by have hz:=HZ.out; simp only [Bool.false_eq_true,iff_false,iff_true] at hz; simpa using hz),rfl⟩
def mayL (p:Nat):List Int:=if p = 0 then [1,6] else if p = 1 then [2,3] else if p = 2 then [4,5] else [5]
theorem next_any (p k:Nat) (hp:p ≤ 3):(mayL p).any (fun y => ((k:Int) == y)) = (nextP p k).2:=by
 have e:∀ m:Nat,((k:Int) == (m:Int)) = (k == m):=fun m => by
  by_cases h:k = m
  ·rw [h]; simp
  ·rw [beq_eq_false_iff_ne.2 h,beq_eq_false_iff_ne]; omega
 have e1:=e 1; have e2:=e 2; have e3:=e 3; have e4:=e 4; have e5:=e 5; have e6:=e 6
 unfold mayL nextP
 have:p = 0 ∨ p = 1 ∨ p = 2 ∨ p = 3:=by omega
 rcases this with rfl | rfl | rfl | rfl <;> simp_all
theorem ints_lit {w:World} {b B:Nat} {t:TypeId} (l:List Int) (n:Nat) (h:Blk w b t (l.map (Value.int .u8)).toArray) (hn:l.length = n) (hB:b < B) (hm:n ≤ 1000):Sl w B 1 (.slice (some ⟨b,0,none⟩) n n) n (l.map (Value.int .u8)) :=
 ⟨by simp [hn],_,n,rfl,Nat.le_refl _,by unfold maxLen; omega, .inr ⟨b,0,rfl,hB,fun j hj => by rw [Nat.zero_add,h.cell]; simp⟩⟩
set_option maxRecDepth 100000 in
set_option maxHeartbeats 4000000 in
theorem roNext_c (p k:Nat) (hp:p ≤ 3) (hk0:1 ≤ k) (hk1:k ≤ 6) (w:World):Calls Tryz.prog 60 #[.int .u8 (p:Int), .int .u8 (k:Int)] w fun e w' => e = .returned (.tuple #[.int .u8 ((nextP p k).1:Nat), .bool (nextP p k).2]) ∧ Below w.heap.size w w':=by
 have HA:=Lib.hid (next_any p k hp)
 have hN1:Hid ((nextP p k).1 = if k = 1 then 1 else if k = 2 then 2 else if k = 3 then 3 else 0):=rfl
 generalize nextP p k = R at *
 go_enter Tryz.func60,Tryz.ntmps60
 go_upto_region 3 with fail
 have K6:=(((((((KB.start w).pushN w.heap.size rfl #[.int .u8 1, .int .u8 6] 5).pushN (w.heap.size + 1) (by simp) #[.int .u8 2, .int .u8 3] 5).pushN (w.heap.size + 1 + 1) (by simp) #[.int .u8 4, .int .u8 5] 5).pushN (w.heap.size + 1 + 1 + 1) (by simp) #[.int .u8 5] 5).pushN (w.heap.size + 1 + 1 + 1 + 1) (by simp)
  #[.slice (some ⟨w.heap.size,0,none⟩) 2 2, .slice (some ⟨w.heap.size + 1,0,none⟩) 2 2, .slice (some ⟨w.heap.size + 1 + 1,0,none⟩) 2 2, .slice (some ⟨w.heap.size + 1 + 1 + 1,0,none⟩) 1 1] 193).pushN (w.heap.size + 1 + 1 + 1 + 1 + 1) (by simp)
  #[.int .u8 0, .int .u8 1, .int .u8 2, .int .u8 3, .int .u8 0, .int .u8 0, .int .u8 0] 194)
 generalize World.alloc (World.alloc (World.alloc (World.alloc (World.alloc (World.alloc w _) _) _) _) _) _ = W at *
 have c7:W.cell? ⟨w.heap.size + 1 + 1 + 1 + 1 + 1,k,none⟩ = some (.int .u8 (R.1:Nat)):=by
  rw [K6.hd.cell k,hN1.out]
  have:k = 1 ∨ k = 2 ∨ k = 3 ∨ k = 4 ∨ k = 5 ∨ k = 6:=by omega
  rcases this with rfl | rfl | rfl | rfl | rfl | rfl <;> rfl
 have hk7:(k:Int) < 7:=by omega
 have hp4:(p:Int) < 4:=by omega
 have hS:∃ b n,W.cell? ⟨w.heap.size + 1 + 1 + 1 + 1,p,none⟩ = some (.slice (some ⟨b,0,none⟩) n n) ∧ Sl W W.heap.size 1 (.slice (some ⟨b,0,none⟩) n n) n ((mayL p).map (Value.int .u8)) ∧ (mayL p).length = n:=by
  have h4:=K6.tl.hd
  have:p = 0 ∨ p = 1 ∨ p = 2 ∨ p = 3:=by omega
  rcases this with rfl | rfl | rfl | rfl
  ·exact ⟨_,2,h4.cell 0,ints_lit [1,6] 2 K6.tl.tl.tl.tl.tl.hd rfl K6.tl.tl.tl.tl.tl.hd.lt (by decide),rfl⟩
  ·exact ⟨_,2,h4.cell 1,ints_lit [2,3] 2 K6.tl.tl.tl.tl.hd rfl K6.tl.tl.tl.tl.hd.lt (by decide),rfl⟩
  ·exact ⟨_,2,h4.cell 2,ints_lit [4,5] 2 K6.tl.tl.tl.hd rfl K6.tl.tl.tl.hd.lt (by decide),rfl⟩
  ·exact ⟨_,1,h4.cell 3,ints_lit [5] 1 K6.tl.tl.hd rfl K6.tl.tl.hd.lt (by decide),rfl⟩
 obtain ⟨b,n,c4,hsl,hln⟩:=hS
 have HC:Hid (∀ W':World,W'.heap = W.heap → Calls Tryz.prog 21 #[.slice (some ⟨b,0,none⟩) n n, .int .u8 (k:Int)] W' fun e w' => e = .returned (.bool R.2) ∧ W' = w'):=by
  intro W' hW
  rw [← HA.out]
  obtain ⟨h1,a1,cap1,e1,h2,h3,h4⟩:=hsl
  exact ContainsU8_c (mayL p) n _ (k:Int) W.heap.size W' ⟨h1,a1,cap1,e1,h2,h3,h4.imp id (fun ⟨b,off,e,hb,hc⟩ => ⟨b,off,e,hb,fun j hj => (World.cell?_of_block (by rw [hW])).trans (hc j hj)⟩)⟩ hln
 have HB:=Lib.hid K6.below
 clear K6 hsl hln HA hN1
 obtain ⟨t,g⟩:=R
 go_region_with (first | (go_at_call 21; refine (HC.out W.drew rfl).mono ?_; rintro e w1 ⟨rfl,rfl⟩))
 all_goals
  go_wp2_with fail
  go_ret2
  exact ⟨rfl,HB.out.drew⟩
set_option maxRecDepth 100000 in
set_option maxHeartbeats 600000 in
theorem roText_c (x:St) (hok:x.Ok) (hmay:x.mayB = true) (v:Value) (w:World) (P:Nat → Prop) (hv:StIn w P v x) (hP:∀ b,P b → b < w.heap.size) :
  Calls Tryz.prog 62 #[v] w fun e w' => e = .returned (.string x.text) ∧ Below w.heap.size w w':=by
 obtain ⟨sv,rfl,hn⟩:=hv
 have hnums:=St.nums_ok hok
 have HPL:Hid (∀ W:World,Calls Tryz.prog 99 #[.slice (some ⟨W.heap.size,0,none⟩) 6 6] (W.alloc (.cells #[.int .i64 x.n, .int .i64 x.cut, .int .i64 x.too, .int .i64 x.part, .int .i64 x.at_, .int .i64 x.why] 2)) fun e w' => e = .returned (.string (bstr (putL x.nums))) ∧ Below W.heap.size W w') :=
  fun W => putLit_c x.nums 6 _ rfl rfl hnums (by omega) W
 have hpl:(putL x.nums).length ≤ 60:=putL_len x.nums hnums
 have hA:=(Below.refl w.heap.size w).alloc (Nat.le_refl _) (.cells (stC x sv) 29)
 have hbx:=Blk.new w (stC x sv) 29
 have HTX:Hid (x.text = bstr (putL x.nums ++ if x.kind = 1 then txtL (bstr x.job.by) else [])):=rfl
 generalize x.text = TX at *
 by_cases hk:x.kind = 1
 ·have hjm:=St.may_job hmay hk
  have hsm:=by_small hok.job hjm
  have hput:x.job.putR = (x.job.by,0):=by unfold Jb.putR; rw [if_pos hjm]
  have HPP:Hid (∀ W:World,Below w.heap.size w W → Calls Tryz.prog 98 #[.agg #[.int .i64 x.job.par,sv]] W fun e w' => e = .returned (.tuple #[.string (bstr x.job.by), .int .i64 0]) ∧ Below W.heap.size W w'):=by
   intro W hb
   have:=PackPut_c x.job hok.job (.agg #[.int .i64 x.job.par,sv]) w.heap.size W ⟨sv,rfl,(hn.toAt hP).keep hb⟩ hb.size
   rwa [hput] at this
  have HPT:Hid (∀ W:World,Calls Tryz.prog 117 #[.string (bstr x.job.by)] W fun e w' => e = .returned (.tuple #[.string (bstr (txtL (bstr x.job.by))), .int .i64 0]) ∧ Below W.heap.size W w'):=fun W => PutText_c (bstr x.job.by) (by rw [bstr_size]; omega) W
  rw [if_pos hk] at HTX
  have hkb:((x.kind:Int) == 1) = true:=by rw [beq_iff_eq]; omega
  have htl:(txtL (bstr x.job.by)).length ≤ 65546:=by
   have:=(txtL_len (bstr x.job.by) (by rw [bstr_size]; omega)).1
   rw [bstr_size] at this
   omega
  obtain ⟨TY,hTY⟩:∃ TY,bstr (txtL (bstr x.job.by)) = TY:=⟨_,rfl⟩
  have hz1:(bstr (putL x.nums)).size ≤ 60:=by rw [bstr_size]; exact hpl
  have hz2:TY.size ≤ 65546:=by rw [← hTY,bstr_size]; exact htl
  rw [← bstr_app,hTY] at HTX
  rw [hTY] at HPT
  obtain ⟨a,cap,rfl, -, -⟩:=hn.slice
  clear hn hsm hput htl hTY hjm hpl hnums hok hmay hk
  generalize bstr (putL x.nums) = SN at *
  generalize bstr x.job.by = JB at *
  unfold stC at hbx hA ⊢
  go_enter Tryz.func62,Tryz.ntmps62
  go_upto_region 1 with fail
  generalize World.alloc w _ = W1 at *
  have HPL2:=Lib.hid (HPL.out W1)
  have q1:=hbx.cell 1
  have q2:=hbx.cell 2
  have q3:=hbx.cell 3
  have q6:=hbx.cell 6
  have q7:=hbx.cell 7
  have q8:=hbx.cell 8
  go_upto_region 2 with (first | (go_at_call 99; refine HPL2.out.mono ?_; rintro e w2 ⟨rfl,hb2⟩) | fail)
  have hbx2:=hbx.below hb2 hbx.lt
  have hB2:=hA.trans (hb2.mono hA.size)
  have g0:=hbx2.cell 0
  have g4:=hbx2.cell 4
  have g5:=hbx2.cell 5
  have HPP2:=Lib.hid (HPP.out w2 hB2)
  clear q1 q2 q3 q6 q7 q8 hbx hA hb2 HPL HPL2 HPP
  go_wp2_with (first | (go_at_call 98; refine HPP2.out.mono ?_; rintro e w3 ⟨rfl,hb3⟩) | (go_at_call 117; refine (HPT.out _).mono ?_; rintro e w4 ⟨rfl,hb4⟩) | fail)
  go_ret
  rw [HTX.out]
  exact ⟨rfl,(hB2.trans (hb3.mono hB2.size)).trans (hb4.mono (Nat.le_trans hB2.size hb3.size))⟩
 ·rw [if_neg hk,List.append_nil] at HTX
  have hkb:((x.kind:Int) == 1) = false:=by rw [beq_eq_false_iff_ne]; omega
  obtain ⟨a,cap,rfl, -, -⟩:=hn.slice
  clear hn hpl hnums hok hmay hk
  generalize bstr (putL x.nums) = SN at *
  unfold stC at hbx hA ⊢
  go_enter Tryz.func62,Tryz.ntmps62
  go_upto_region 1 with fail
  generalize World.alloc w _ = W1 at *
  have HPL2:=Lib.hid (HPL.out W1)
  have q1:=hbx.cell 1
  have q2:=hbx.cell 2
  have q3:=hbx.cell 3
  have q6:=hbx.cell 6
  have q7:=hbx.cell 7
  have q8:=hbx.cell 8
  go_upto_region 2 with (first | (go_at_call 99; refine HPL2.out.mono ?_; rintro e w2 ⟨rfl,hb2⟩) | fail)
  have hbx2:=hbx.below hb2 hbx.lt
  have hB2:=hA.trans (hb2.mono hA.size)
  have g0:=hbx2.cell 0
  clear q1 q2 q3 q6 q7 q8 hbx hA hb2 HPL HPL2
  go_wp2_with fail
  go_ret
  rw [HTX.out]
  exact ⟨rfl,hB2⟩
end Go.Proofs.YtpkijdkoiecpiaaGreatDoor
