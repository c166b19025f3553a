/-
  Parts of the proof: P1 P2 P3.
-/
import Derived.BigQuiet
import Derived.Shelf.Abstract
import Derived.Test.YtpkijdkoiecpiaaGreatDoorZS34
namespace Go.Proofs.YtpkijdkoiecpiaaGreatDoor
open Go.RowKit
set_option linter.unusedVariables false
set_option linter.unusedSimpArgs false
theorem app_fit {d:Dk} {f:Nat} {s:ByteArray} (h16:d.now.length = 16) (hf:f < 16) (hfit:(Dk.sum ((Chg.app f s).does d.now):Int) ≤ d.room) (hr:d.room ≤ 4194304):(fl d.now f).size + s.size ≤ 4194304:=by
 have h1:=sum_le ((Chg.app f s).does d.now) f
 have h2:fl ((Chg.app f s).does d.now) f = fl d.now f ++ s:=by
  show fl (d.now.set f _) f = _
  rw [fl_set _ _ _ _ (by omega),if_pos rfl]
 rw [h2,ByteArray.size_append] at h1
 omega
theorem Bq.keepW {w w1:World} {b:Nat} {v:Value} (h:Bq w b v) {D:Nat} (hne:b ≠ D) (hk:∀ b,b < w.heap.size → b ≠ D → w1.heap[b]? = w.heap[b]?):Bq w1 b v:=h.keep (hk b h.lt hne)
theorem doesC_app (D bp bf bs f:Nat) (s:ByteArray) (w:World) (h0:Bq w bp (appPartV bf bs)) (h1:Bq w bf (.int .i64 f)) (h2:Bq w bs (.string s)) (n0:bp ≠ D) (n1:bf ≠ D) (n2:bs ≠ D):DoesC 131 (px bp) (px bs) D (.app f s) w:=by
 intro w1 d1 lv hb hi hok hfit hk
 have hf:f < 16:=hok
 refine (appDoes_c D 1 bp bf bs f s (fl d1.now f) _ _ w1 hb hf (dkC_now hi.len f hf) ?_ (h0.keepW n0 hk) (h1.keepW n1 hk) (h2.keepW n2 hk)).mono ?_
 ·have:=app_fit hi.now16 hf hfit hi.room2; omega
 ·rintro e w' ⟨rfl,h3,h4⟩
  rw [dkC_set_now hi.len f hf] at h3
  exact ⟨rfl,h3,h4⟩
theorem doesC_cut (D bf bn f n:Nat) (w:World) (h1:Bq w bf (.int .i64 f)) (h2:Bq w bn (.int .i64 n)) (n1:bf ≠ D) (n2:bn ≠ D):DoesC 133 (px bf) (px bn) D (.cut f n) w:=by
 intro w1 d1 lv hb hi hok hfit hk
 obtain ⟨hf,hn⟩:=hok
 refine (cutDoes_c D 1 bf bn f n (fl d1.now f) _ _ w1 hb hf (dkC_now hi.len f hf) hn (h1.keepW n1 hk) (h2.keepW n2 hk)).mono ?_
 rintro e w' ⟨rfl,h3,h4⟩
 rw [dkC_set_now hi.len f hf] at h3
 exact ⟨rfl,h3,h4⟩
theorem doesC_mv (D ba bb a b:Nat) (w:World) (h1:Bq w ba (.int .i64 a)) (h2:Bq w bb (.int .i64 b)) (n1:ba ≠ D) (n2:bb ≠ D):DoesC 134 (px ba) (px bb) D (.mv a b) w:=by
 intro w1 d1 lv hb hi hok hfit hk
 obtain ⟨ha,hbb,hab⟩:=hok
 refine (mvDoes_c D 1 ba bb a b (fl d1.now a) (fl d1.now b) _ _ w1 hb ha hbb hab (dkC_now hi.len a ha) (dkC_now hi.len b hbb) (h1.keepW n1 hk) (h2.keepW n2 hk) n1 n2).mono ?_
 rintro e w' ⟨rfl,h3,h4⟩
 have hl2:Dk.Len { d1 with now:=d1.now.set b (fl d1.now a) }:=⟨by rw [List.length_set]; exact hi.now16,hi.sure16⟩
 rw [dkC_set_now hi.len b hbb,dkC_set_now hl2 a ha] at h3
 exact ⟨rfl,h3,h4⟩
theorem two_boxes (w:World) (u v:Value) (t1 t2:TypeId):Bq ((w.alloc (.cells #[u] t1)).alloc (.cells #[v] t2)) w.heap.size u ∧ Bq ((w.alloc (.cells #[u] t1)).alloc (.cells #[v] t2)) (w.heap.size + 1) v ∧
  Below w.heap.size w ((w.alloc (.cells #[u] t1)).alloc (.cells #[v] t2)) ∧ ((w.alloc (.cells #[u] t1)).alloc (.cells #[v] t2)).heap.size = w.heap.size + 2 :=
 ⟨(Bq.new_at w u t1 rfl).alloc _,Bq.new_at _ v t2 (by simp),((Below.refl w.heap.size w).alloc (Nat.le_refl _) _).alloc (by simp) _,by simp⟩
set_option maxRecDepth 100000 in
set_option maxHeartbeats 2000000 in
theorem Append_c (w:World) (M:Nat → Prop) (D:Nat) (d:Dk) (h:DkAt w M D d) (f:Int) (s:ByteArray) (hs:s.size ≤ 140737488355328) (hll:d.loose.length ≤ 1000000000) :
  Calls Tryz.prog 69 #[px D, .int .i64 f, .string s] w fun e w' => e = .returned (.int .i64 (d.append f s).2) ∧ DkTo w w' M D (d.append f s).1:=by
 obtain ⟨lv,hb,hL⟩:=id h.ex
 have hld:=h.inv.len
 have hDlt:=h.lt D h.mem
 have HRD:Hid (∀ W:World,Below w.heap.size w W → Calls Tryz.prog 68 #[px D, .slice (some ⟨W.heap.size,0,none⟩) 1 1] (W.alloc (.cells #[.int .i64 f] 3)) fun e w' => e = .returned (.int .i64 (if d.off = true then 50 else if Dk.isF f = false then 2 else 0)) ∧ (W.alloc (.cells #[.int .i64 f] 3)) = w'):=by
  intro W hW
  rw [← rdy_one]
  exact ready_c D _ d lv ((hb.below hW hDlt).alloc _) hld [f] 1 _ _ (int_one (Blk.new W _ _))
 have HE:Hid (d.append f s = if d.off = true then (d,50) else if Dk.isF f = false then (d,2) else if d.free < (s.size:Int) then (d,7) else d.change (.app f.toNat s)):=rfl
 have HI:=Lib.hid (h.inv.append f s)
 generalize d.append f s = R at *
 unfold px at HRD ⊢
 have HH:=Lib.hid h
 have HLF:=Lib.hid (fun W (hb:Blk W D 101 (dkC d lv)) => Left_c D W d lv hb hld h.inv.fits h.inv.room2)
 have HBX:=Lib.hid (two_boxes w (.int .i64 f) (.string s) 3 9)
 have HB:=Lib.hid hb
 have HLL:=Lib.hid hll
 have HD:=Lib.hid hDlt
 clear hL hb h hld hll hDlt
 by_cases ho:d.off = true
 ·rw [if_pos ho] at HE
  simp only [if_pos ho] at HRD
  clear ho
  go_enter Tryz.func69,Tryz.ntmps69
  go_upto_region 1 with fail
  obtain ⟨x1,x2,hB2,z2⟩:=HBX.out
  generalize World.alloc (World.alloc w _) _ = W2 at *
  have c1:=x1.cell
  clear z2
  have HR2:=Lib.hid (HRD.out W2 hB2)
  go_wp2_with (first | (go_at_call 68; refine HR2.out.mono ?_; rintro e w1 ⟨rfl,rfl⟩) | fail)
  go_ret
  rw [HE.out]
  exact ⟨rfl,HH.out.toB (hB2.alloc hB2.size _)⟩
 rw [if_neg ho] at HE
 simp only [if_neg ho] at HRD
 clear ho
 cases hf:Dk.isF f
 ·rw [hf,if_pos rfl] at HE
  simp only [hf,if_pos] at HRD
  go_enter Tryz.func69,Tryz.ntmps69
  go_upto_region 1 with fail
  obtain ⟨x1,x2,hB2,z2⟩:=HBX.out
  generalize World.alloc (World.alloc w _) _ = W2 at *
  have c1:=x1.cell
  clear z2
  have HR2:=Lib.hid (HRD.out W2 hB2)
  go_wp2_with (first | (go_at_call 68; refine HR2.out.mono ?_; rintro e w1 ⟨rfl,rfl⟩) | fail)
  go_ret
  rw [HE.out]
  exact ⟨rfl,HH.out.toB (hB2.alloc hB2.size _)⟩
 rw [hf,if_neg (by decide)] at HE
 have hff:(if Dk.isF f = false then (2:Int) else 0) = 0:=by rw [hf]; rfl
 simp only [hff] at HRD
 clear hff
 obtain ⟨n,rfl,hn⟩:=isF_ir hf
 rw [Int.toNat_natCast] at HE
 clear hf
 go_enter Tryz.func69,Tryz.ntmps69
 go_upto_region 1 with fail
 obtain ⟨x1,x2,hB2,z2⟩:=HBX.out
 generalize World.alloc (World.alloc w _) _ = W2 at *
 have c1:=x1.cell
 have Z2:=Lib.hid z2
 clear z2
 have HR2:=Lib.hid (HRD.out W2 hB2)
 go_upto_region 4 with (first | (go_at_call 68; refine HR2.out.mono ?_; rintro e w1 ⟨rfl,rfl⟩) | fail)
 have hB3:=hB2.alloc hB2.size (.cells #[.int .i64 n] 3)
 have y1:=x1.alloc (.cells #[.int .i64 n] 3)
 have y2:=x2.alloc (.cells #[.int .i64 n] 3)
 have z3:(W2.alloc (.cells #[.int .i64 n] 3)).heap.size = w.heap.size + 3:=by simp [Z2.out]
 generalize World.alloc W2 _ = W3 at *
 have c2:=y2.cell
 have HL3:Hid (∀ W:World,W.heap = W3.heap → Calls Tryz.prog 128 #[px D] W fun e w' => e = .returned (.int .i64 d.free) ∧ W = w'):=fun W hW => HLF.out W (by unfold Blk; rw [hW]; exact HB.out.below hB3 HD.out)
 have Z3:=Lib.hid z3
 clear x1 x2 c1 HR2 z3 hB2 HRD HLF
 unfold px at HL3
 by_cases hfr:d.free < (s.size:Int)
 ·rw [if_pos hfr] at HE
  have hd:decide (d.free < (s.size:Int)) = true:=decide_eq_true hfr
  generalize d.free = FR at *
  go_region_with (first | (go_at_call 128; refine (HL3.out W3.drew rfl).mono ?_; rintro e w1 ⟨rfl,rfl⟩))
  all_goals
   go_wp2_with fail
   go_ret
   rw [HE.out]
   exact ⟨rfl,HH.out.toB hB3.drew⟩
 ·rw [if_neg hfr] at HE
  have hfr2:Hid (¬ d.free < (s.size:Int)):=hfr
  have hd:decide (d.free < (s.size:Int)) = false:=decide_eq_false hfr
  have hfit:Hid ((Dk.sum ((Chg.app n s).does d.now):Int) ≤ d.room):=by
   have h16:=HH.out.inv.now16
   have:=sum_set d.now n (fl d.now n ++ s) (by rw [h16]; exact hn)
   rw [ByteArray.size_append] at this
   unfold Dk.free at hfr
   show (Dk.sum (d.now.set n (fl d.now n ++ s)):Int) ≤ d.room
   omega
  have hmf:∀ (fn:Fn) (first cap:Array Value) (w:World),(Instr.makeFunc fn first cap).run Tryz.prog w = .ok (.func fn first cap) w:=fun _ _ _ _ => rfl
  have hst:∀ (a:Addr) (fn:Fn) (first cap:Array Value) (w:World),(store a (.func fn first cap)).run Tryz.prog w = stored Tryz.prog w a (.func fn first cap) .plain:=fun a fn f c w => run_store _ w a _ _ rfl
  clear hfr
  generalize d.free = FR at *
  go_region_with (first | (go_at_call 128; refine (HL3.out W3.drew rfl).mono ?_; rintro e w1 ⟨rfl,rfl⟩))
  all_goals
   have y1:Bq W3.drew w.heap.size (.int .i64 (n:Int)):=y1
   have y2:Bq W3.drew (w.heap.size + 1) (.string s):=y2
   have c2:=y2.cell
   have hB5:=hB3.drew
   have hsz5:w.heap.size + 3 = W3.drew.heap.size:=Z3.out.symm
   clear hB3 HL3 Z2 Z3
   generalize W3.drew = W5 at *
   have HZ:=Lib.hid hsz5
   clear hsz5
   go_upto_region 7 with fail
   have y3:Bq (W5.alloc (.cells #[appPartV w.heap.size (w.heap.size + 1)] 122)) W5.heap.size (appPartV w.heap.size (w.heap.size + 1)):=Bq.new_at W5 _ _ rfl
   have y1:=y1.alloc (.cells #[appPartV w.heap.size (w.heap.size + 1)] 122)
   have y2:=y2.alloc (.cells #[appPartV w.heap.size (w.heap.size + 1)] 122)
   have hB6:=hB5.alloc hB5.size (.cells #[appPartV w.heap.size (w.heap.size + 1)] 122)
   have hbp:=HZ.out
   generalize hg:W5.heap.size = bp at *
   have c3:=y3.cell
   clear c2
   unfold appPartV px at y1 y2 y3 c3 hB6
   generalize World.alloc W5 _ = W6 at *
   have HCH:=Lib.hid (change_g 131 (px bp) (px (w.heap.size + 1)) (appPartV w.heap.size (w.heap.size + 1)) (.app n s) (enters_of Tryz.func131 (by kernel_rfl) rfl) rfl W6 M (fun b => b = bp ∨ b = w.heap.size ∨ b = w.heap.size + 1) D d (HH.out.below hB6)
    (doesC_app D bp w.heap.size (w.heap.size + 1) n s W6 y3 y1 y2 (by have:=HD.out; omega) (by have:=HD.out; omega) (by have:=HD.out; omega))
    ⟨bp,w.heap.size + 1,w.heap.size,rfl,rfl,y3,y2,y1, .inl rfl, .inr (.inr rfl), .inr (.inl rfl)⟩
    (by
     rintro b (rfl | rfl | rfl)
     ·exact ⟨y3.lt,fun hm => by have:=HH.out.lt _ hm; omega⟩
     ·exact ⟨y1.lt,fun hm => by have:=HH.out.lt _ hm; omega⟩
     ·exact ⟨y2.lt,fun hm => by have:=HH.out.lt _ hm; omega⟩) hn hfit.out HLL.out)
   unfold appPartV px at HCH
   clear y1 y2 y3
   go_wp2_with (first | (go_at_call 130; refine HCH.out.mono ?_; rintro e w7 ⟨rfl,hf7,N,hN,hd7⟩) | fail)
   go_ret
   rw [HE.out]
   refine ⟨rfl,(Fr.of_new hB6).step hf7 (fun _ _ h => h) (fun _ _ h => h),N,fun b hb => ?_,hd7⟩
   rcases hN b hb with h | (h | h | h) | h
   ·exact .inl h
   ·subst h; right; omega
   ·subst h; right; omega
   ·subst h; right; omega
   ·have:=hB6.size; right; omega
theorem rdy_two (d:Dk) (a b:Int):rdy d.off [a,b] = if d.off = true then 50 else if Dk.isF a = false ∨ Dk.isF b = false then 2 else 0:=by
 unfold rdy
 cases d.off <;> cases h:Dk.isF a <;> cases h2:Dk.isF b <;> simp [h,h2]
theorem int_two {w:World} {b:Nat} {t:TypeId} {x y:Int} (h:Blk w b t #[.int .i64 x, .int .i64 y]):Sl w w.heap.size 1 (.slice (some ⟨b,0,none⟩) 2 2) 2 ([x,y].map (Value.int .i64)) :=
 ⟨rfl,_,2,rfl,Nat.le_refl _,by unfold maxLen; omega, .inr ⟨b,0,rfl,h.lt,fun j hj => by rw [Nat.zero_add,h.cell]; simp⟩⟩
set_option maxRecDepth 100000 in
set_option maxHeartbeats 2000000 in
theorem Cut_c (w:World) (M:Nat → Prop) (D:Nat) (d:Dk) (h:DkAt w M D d) (f z:Int) (hll:d.loose.length ≤ 1000000000) :
  Calls Tryz.prog 71 #[px D, .int .i64 f, .int .i64 z] w fun e w' => e = .returned (.int .i64 (d.cut f z).2) ∧ DkTo w w' M D (d.cut f z).1:=by
 obtain ⟨lv,hb,hL⟩:=id h.ex
 have hld:=h.inv.len
 have hDlt:=h.lt D h.mem
 have HRD:Hid (∀ W:World,Below w.heap.size w W → Calls Tryz.prog 68 #[px D, .slice (some ⟨W.heap.size,0,none⟩) 1 1] (W.alloc (.cells #[.int .i64 f] 3)) fun e w' => e = .returned (.int .i64 (if d.off = true then 50 else if Dk.isF f = false then 2 else 0)) ∧ (W.alloc (.cells #[.int .i64 f] 3)) = w'):=by
  intro W hW
  rw [← rdy_one]
  exact ready_c D _ d lv ((hb.below hW hDlt).alloc _) hld [f] 1 _ _ (int_one (Blk.new W _ _))
 have HE:Hid (d.cut f z = if d.off = true then (d,50) else if Dk.isF f = false then (d,2) else if z < 0 ∨ ((fl d.now f.toNat).size:Int) < z then (d,5) else d.change (.cut f.toNat z.toNat)):=rfl
 generalize d.cut f z = R at *
 unfold px at HRD ⊢
 have HH:=Lib.hid h
 have HBX:=Lib.hid (two_boxes w (.int .i64 f) (.int .i64 z) 3 3)
 have HB:=Lib.hid hb
 have HLL:=Lib.hid hll
 have HD:=Lib.hid hDlt
 have HLD:=Lib.hid hld
 clear hL hb h hld hll hDlt
 by_cases ho:d.off = true
 ·rw [if_pos ho] at HE
  simp only [if_pos ho] at HRD
  clear ho
  go_enter Tryz.func71,Tryz.ntmps71
  go_upto_region 1 with fail
  obtain ⟨x1,x2,hB2,z2⟩:=HBX.out
  generalize World.alloc (World.alloc w _) _ = W2 at *
  have c1:=x1.cell
  clear z2
  have HR2:=Lib.hid (HRD.out W2 hB2)
  go_wp2_with (first | (go_at_call 68; refine HR2.out.mono ?_; rintro e w1 ⟨rfl,rfl⟩) | fail)
  go_ret
  rw [HE.out]
  exact ⟨rfl,HH.out.toB (hB2.alloc hB2.size _)⟩
 rw [if_neg ho] at HE
 simp only [if_neg ho] at HRD
 clear ho
 cases hf:Dk.isF f
 ·rw [hf,if_pos rfl] at HE
  simp only [hf,if_pos] at HRD
  go_enter Tryz.func71,Tryz.ntmps71
  go_upto_region 1 with fail
  obtain ⟨x1,x2,hB2,z2⟩:=HBX.out
  generalize World.alloc (World.alloc w _) _ = W2 at *
  have c1:=x1.cell
  clear z2
  have HR2:=Lib.hid (HRD.out W2 hB2)
  go_wp2_with (first | (go_at_call 68; refine HR2.out.mono ?_; rintro e w1 ⟨rfl,rfl⟩) | fail)
  go_ret
  rw [HE.out]
  exact ⟨rfl,HH.out.toB (hB2.alloc hB2.size _)⟩
 rw [hf,if_neg (by decide)] at HE
 have hff:(if Dk.isF f = false then (2:Int) else 0) = 0:=by rw [hf]; rfl
 simp only [hff] at HRD
 clear hff
 obtain ⟨n,rfl,hn⟩:=isF_ir hf
 rw [Int.toNat_natCast] at HE
 clear hf
 go_enter Tryz.func71,Tryz.ntmps71
 go_upto_region 1 with fail
 obtain ⟨x1,x2,hB2,z2⟩:=HBX.out
 generalize World.alloc (World.alloc w _) _ = W2 at *
 have c1:=x1.cell
 have Z2:=Lib.hid z2
 clear z2
 have HR2:=Lib.hid (HRD.out W2 hB2)
 go_upto_region 4 with (first | (go_at_call 68; refine HR2.out.mono ?_; rintro e w1 ⟨rfl,rfl⟩) | fail)
 have hB3:=hB2.alloc hB2.size (.cells #[.int .i64 n] 3)
 have y1:=x1.alloc (.cells #[.int .i64 n] 3)
 have y2:=x2.alloc (.cells #[.int .i64 n] 3)
 have z3:(W2.alloc (.cells #[.int .i64 n] 3)).heap.size = w.heap.size + 3:=by simp [Z2.out]
 generalize World.alloc W2 _ = W3 at *
 have c1':=y1.cell
 have c2:=y2.cell
 have Z3:=Lib.hid z3
 have hb3:=HB.out.below hB3 HD.out
 have cn:=(hb3.cell (1 + n)).trans (dkC_now HLD.out n hn)
 have hn16:(n:Int) < 16:=by omega
 have hn0:(0:Int) ≤ (n:Int):=by omega
 have hsz0:(fl d.now n).size ≤ 4194304:=by
  have h1:=sum_le d.now n
  have h2:=HH.out.inv.fits
  have h3:=HH.out.inv.room2
  omega
 clear x1 x2 c1 HR2 z3 hB2 HRD hb3
 have HX:Hid (fl d.now n = fl d.now n):=rfl
 generalize hx:fl d.now n = x at *
 have HXX:=Lib.hid hx
 clear hx HX
 have hne1:D ≠ w.heap.size:=by have:=HD.out; omega
 by_cases hz:z < 0
 ·rw [if_pos (.inl hz)] at HE
  have d1:decide (z < 0) = true:=decide_eq_true hz
  go_quiet (fail)
  go_wp2_with fail
  go_ret
  rw [HE.out]
  exact ⟨rfl,HH.out.toB (below_drewN hB3 _)⟩
 have d1:decide (z < 0) = false:=decide_eq_false hz
 by_cases hz2:(x.size:Int) < z
 ·rw [if_pos (.inr hz2)] at HE
  have d2:decide ((x.size:Int) < z) = true:=decide_eq_true hz2
  go_quiet (fail)
  go_wp2_with fail
  go_ret
  rw [HE.out]
  exact ⟨rfl,HH.out.toB (below_drewN hB3 _)⟩
 ·have d2:decide ((x.size:Int) < z) = false:=decide_eq_false hz2
  rw [if_neg (fun h => by rcases h with h | h; exact hz h; exact hz2 h)] at HE
  obtain ⟨m,rfl⟩:∃ m:Nat,z = (m:Int):=⟨z.toNat,by omega⟩
  rw [Int.toNat_natCast] at HE
  have hok:Hid (Chg.okIn (.cut n m) d.now):=⟨hn,by rw [HXX.out]; omega⟩
  have hfit:Hid ((Dk.sum ((Chg.cut n m).does d.now):Int) ≤ d.room):=by
   have h1:=does_sum_cut n m d.now (by rw [HH.out.inv.now16]; exact hn)
   have h2:=HH.out.inv.fits
   show (_:Int) ≤ _
   omega
  have hmf:∀ (fn:Fn) (first cap:Array Value) (w:World),(Instr.makeFunc fn first cap).run Tryz.prog w = .ok (.func fn first cap) w:=fun _ _ _ _ => rfl
  go_quiet (fail)
  have y1:Bq (W3.drewN nq) w.heap.size (.int .i64 (n:Int)):=y1
  have y2:Bq (W3.drewN nq) (w.heap.size + 1) (.int .i64 (m:Int)):=y2
  have hB4:=below_drewN hB3 nq
  clear c1' c2 cn hB3 Z3
  generalize World.drewN W3 nq = W6 at *
  have HCH:=Lib.hid (change_g 133 (px w.heap.size) (px (w.heap.size + 1)) .nilFunc (.cut n m) (enters_of Tryz.func133 (by kernel_rfl) rfl) rfl W6 M (fun b => b = w.heap.size ∨ b = w.heap.size + 1) D d (HH.out.below hB4)
   (doesC_cut D w.heap.size (w.heap.size + 1) n m W6 y1 y2 (by have:=HD.out; omega) (by have:=HD.out; omega))
   ⟨w.heap.size,w.heap.size + 1,rfl,rfl,y1,y2, .inl rfl, .inr rfl⟩
   (by
    rintro b (rfl | rfl)
    ·exact ⟨y1.lt,fun hm => by have:=HH.out.lt _ hm; omega⟩
    ·exact ⟨y2.lt,fun hm => by have:=HH.out.lt _ hm; omega⟩) hok.out hfit.out HLL.out)
  unfold px at HCH
  clear y1 y2
  go_wp2_with (first | (go_at_call 130; refine HCH.out.mono ?_; rintro e w7 ⟨rfl,hf7,N,hN,hd7⟩) | fail)
  go_ret
  rw [HE.out]
  refine ⟨rfl,(Fr.of_new hB4).step hf7 (fun _ _ h => h) (fun _ _ h => h),N,fun b hb => ?_,hd7⟩
  rcases hN b hb with h | (h | h) | h
  ·exact .inl h
  ·subst h; right; omega
  ·subst h; right; omega
  ·have:=hB4.size; right; omega
set_option maxRecDepth 100000 in
set_option maxHeartbeats 2000000 in
theorem Move_c (w:World) (M:Nat → Prop) (D:Nat) (d:Dk) (h:DkAt w M D d) (f z:Int) (hll:d.loose.length ≤ 1000000000) :
  Calls Tryz.prog 73 #[px D, .int .i64 f, .int .i64 z] w fun e w' => e = .returned (.int .i64 (d.move f z).2) ∧ DkTo w w' M D (d.move f z).1:=by
 obtain ⟨lv,hb,hL⟩:=id h.ex
 have hld:=h.inv.len
 have hDlt:=h.lt D h.mem
 have HRD:Hid (∀ W:World,Below w.heap.size w W → Calls Tryz.prog 68 #[px D, .slice (some ⟨W.heap.size,0,none⟩) 2 2] (W.alloc (.cells #[.int .i64 f, .int .i64 z] 3)) fun e w' => e = .returned (.int .i64 (if d.off = true then 50 else if Dk.isF f = false ∨ Dk.isF z = false then 2 else 0)) ∧ (W.alloc (.cells #[.int .i64 f, .int .i64 z] 3)) = w'):=by
  intro W hW
  rw [← rdy_two]
  exact ready_c D _ d lv ((hb.below hW hDlt).alloc _) hld [f,z] 2 _ _ (int_two (Blk.new W _ _))
 have HE:Hid (d.move f z = if d.off = true then (d,50) else if Dk.isF f = false ∨ Dk.isF z = false then (d,2) else if f = z then (d,2) else d.change (.mv f.toNat z.toNat)):=rfl
 generalize d.move f z = R at *
 unfold px at HRD ⊢
 have HH:=Lib.hid h
 have HBX:=Lib.hid (two_boxes w (.int .i64 f) (.int .i64 z) 3 3)
 have HLL:=Lib.hid hll
 have HD:=Lib.hid hDlt
 clear hL hb h hld hll hDlt
 by_cases ho:d.off = true
 ·rw [if_pos ho] at HE
  simp only [if_pos ho] at HRD
  clear ho
  go_enter Tryz.func73,Tryz.ntmps73
  go_upto_region 1 with fail
  obtain ⟨x1,x2,hB2,z2⟩:=HBX.out
  generalize World.alloc (World.alloc w _) _ = W2 at *
  have c1:=x1.cell
  have c2:=x2.cell
  clear z2
  have HR2:=Lib.hid (HRD.out W2 hB2)
  go_wp2_with (first | (go_at_call 68; refine HR2.out.mono ?_; rintro e w1 ⟨rfl,rfl⟩) | fail)
  go_ret
  rw [HE.out]
  exact ⟨rfl,HH.out.toB (hB2.alloc hB2.size _)⟩
 rw [if_neg ho] at HE
 simp only [if_neg ho] at HRD
 clear ho
 by_cases hf:Dk.isF f = false ∨ Dk.isF z = false
 ·rw [if_pos hf] at HE
  simp only [if_pos hf] at HRD
  clear hf
  go_enter Tryz.func73,Tryz.ntmps73
  go_upto_region 1 with fail
  obtain ⟨x1,x2,hB2,z2⟩:=HBX.out
  generalize World.alloc (World.alloc w _) _ = W2 at *
  have c1:=x1.cell
  have c2:=x2.cell
  clear z2
  have HR2:=Lib.hid (HRD.out W2 hB2)
  go_wp2_with (first | (go_at_call 68; refine HR2.out.mono ?_; rintro e w1 ⟨rfl,rfl⟩) | fail)
  go_ret
  rw [HE.out]
  exact ⟨rfl,HH.out.toB (hB2.alloc hB2.size _)⟩
 rw [if_neg hf] at HE
 simp only [if_neg hf] at HRD
 have hfa:Dk.isF f = true:=by cases e:Dk.isF f; exact absurd (.inl e) hf; rfl
 have hfb:Dk.isF z = true:=by cases e:Dk.isF z; exact absurd (.inr e) hf; rfl
 clear hf
 obtain ⟨n,rfl,hn⟩:=isF_ir hfa
 obtain ⟨m,rfl,hm⟩:=isF_ir hfb
 rw [Int.toNat_natCast,Int.toNat_natCast] at HE
 clear hfa hfb
 have HNM:Hid ((n:Int) = (m:Int) ∨ (n:Int) ≠ (m:Int)):=by by_cases e:(n:Int) = (m:Int); exact .inl e; exact .inr e
 have hmf:∀ (fn:Fn) (first cap:Array Value) (w:World),(Instr.makeFunc fn first cap).run Tryz.prog w = .ok (.func fn first cap) w:=fun _ _ _ _ => rfl
 go_enter Tryz.func73,Tryz.ntmps73
 go_upto_region 1 with fail
 obtain ⟨x1,x2,hB2,z2⟩:=HBX.out
 generalize World.alloc (World.alloc w _) _ = W2 at *
 have c1:=x1.cell
 have c2:=x2.cell
 have Z2:=Lib.hid z2
 clear z2
 have HR2:=Lib.hid (HRD.out W2 hB2)
 go_upto_region 4 with (first | (go_at_call 68; refine HR2.out.mono ?_; rintro e w1 ⟨rfl,rfl⟩) | fail)
 have hB6:=hB2.alloc hB2.size (.cells #[.int .i64 n, .int .i64 m] 3)
 have y1:=x1.alloc (.cells #[.int .i64 n, .int .i64 m] 3)
 have y2:=x2.alloc (.cells #[.int .i64 n, .int .i64 m] 3)
 clear x1 x2 c1 c2 HR2 Z2 hB2 HRD
 generalize World.alloc W2 _ = W6 at *
 have c1:=y1.cell
 have c2:=y2.cell
 rcases HNM.out with he | he
 ·rw [if_pos he] at HE
  have d1:((n:Int) == (m:Int)) = true:=by rw [beq_iff_eq]; exact he
  clear he HNM
  go_wp2_with fail
  go_ret
  rw [HE.out]
  exact ⟨rfl,HH.out.toB hB6⟩
 ·rw [if_neg he] at HE
  have d1:((n:Int) == (m:Int)) = false:=by rw [beq_eq_false_iff_ne]; exact he
  have hnm:n ≠ m:=by omega
  have hok:Hid (Chg.okIn (.mv n m) d.now):=⟨hn,hm,hnm⟩
  have hfit:Hid ((Dk.sum ((Chg.mv n m).does d.now):Int) ≤ d.room):=by
   have h16:=HH.out.inv.now16
   have h1:=does_sum_mv n m d.now (by rw [h16]; exact hn) (by rw [h16]; exact hm) hnm
   have h2:=HH.out.inv.fits
   show (_:Int) ≤ _
   omega
  have HCH:=Lib.hid (change_g 134 (px w.heap.size) (px (w.heap.size + 1)) .nilFunc (.mv n m) (enters_of Tryz.func134 (by kernel_rfl) rfl) rfl W6 M (fun b => b = w.heap.size ∨ b = w.heap.size + 1) D d (HH.out.below hB6)
   (doesC_mv D w.heap.size (w.heap.size + 1) n m W6 y1 y2 (by have:=HD.out; omega) (by have:=HD.out; omega))
   ⟨w.heap.size,w.heap.size + 1,rfl,rfl,y1,y2, .inl rfl, .inr rfl⟩
   (by
    rintro b (rfl | rfl)
    ·exact ⟨y1.lt,fun hm => by have:=HH.out.lt _ hm; omega⟩
    ·exact ⟨y2.lt,fun hm => by have:=HH.out.lt _ hm; omega⟩) hok.out hfit.out HLL.out)
  unfold px at HCH
  clear y1 y2 he HNM
  go_wp2_with (first | (go_at_call 130; refine HCH.out.mono ?_; rintro e w7 ⟨rfl,hf7,N,hN,hd7⟩) | fail)
  go_ret
  rw [HE.out]
  refine ⟨rfl,(Fr.of_new hB6).step hf7 (fun _ _ h => h) (fun _ _ h => h),N,fun b hb => ?_,hd7⟩
  rcases hN b hb with h | (h | h) | h
  ·exact .inl h
  ·subst h; right; omega
  ·subst h; right; omega
  ·have:=hB6.size; right; omega
def DoesS (K:Nat) (p q:Value) (D:Nat) (c:Chg) (w:World):Prop:=∀ (w1:World) (d1:Dk) (lv:Value),Blk w1 D 101 (dkC d1 lv) → d1.Len → c.okIn d1.sure → Dk.sum (c.does d1.sure) ≤ 4194304 → Dk.sum d1.sure ≤ 4194304 → (∀ b,b < w.heap.size → b ≠ D → w1.heap[b]? = w.heap[b]?) →
 Calls Tryz.prog K #[.pointer (some ⟨D,17,none⟩),p,q] w1 fun e w' => e = .returned (.tuple #[]) ∧ Blk w' D 101 (dkC { d1 with sure:=c.does d1.sure } lv) ∧ Fr (· = D) w1 w'
theorem app_fitS {l:Fls} {f:Nat} {s:ByteArray} (h16:l.length = 16) (hf:f < 16) (hfit:Dk.sum ((Chg.app f s).does l) ≤ 4194304):(fl l f).size + s.size ≤ 4194304:=by
 have h1:=sum_le ((Chg.app f s).does l) f
 have h2:fl ((Chg.app f s).does l) f = fl l f ++ s:=by
  show fl (l.set f _) f = _
  rw [fl_set _ _ _ _ (by omega),if_pos rfl]
 rw [h2,ByteArray.size_append] at h1
 omega
theorem chg_does {w:World} {P:Nat → Prop} {v1 v2:Value} {c:Chg} (D:Nat) (h:ChgAt w P v1 v2 c) (hP:∀ b,P b → b ≠ D) :
  ∃ K p q,v1 = .func (.func K) #[] #[p,q] ∧ (∀ args w,(callFunc K args).run Tryz.prog w = .ok (.enter K args) w) ∧ DoesS K p q D c w:=by
 cases c with
 | app f s =>
  obtain ⟨bp,bs,bf,rfl,rfl,h3,h4,h5,p1,p2,p3⟩:=h
  refine ⟨_,_,_,rfl,enters_of Tryz.func131 (by kernel_rfl) rfl, ?_⟩
  intro w1 d1 lv hb hl hok hfit hfit2 hk
  have hf:f < 16:=hok
  refine (appDoes_c D 17 bp bf bs f s (fl d1.sure f) _ _ w1 hb hf (dkC_sure hl f hf) ?_ (h3.keepW (hP _ p1) hk) (h5.keepW (hP _ p3) hk) (h4.keepW (hP _ p2) hk)).mono ?_
  ·have:=app_fitS hl.s hf hfit; omega
  ·rintro e w' ⟨rfl,h3,h4⟩
   rw [dkC_set_sure hl f hf] at h3
   exact ⟨rfl,h3,h4⟩
 | cut f n =>
  obtain ⟨bf,bn,rfl,rfl,h3,h4,p1,p2⟩:=h
  refine ⟨_,_,_,rfl,enters_of Tryz.func133 (by kernel_rfl) rfl, ?_⟩
  intro w1 d1 lv hb hl hok hfit hfit2 hk
  obtain ⟨hf,hn⟩:=hok
  refine (cutDoes_c D 17 bf bn f n (fl d1.sure f) _ _ w1 hb hf (dkC_sure hl f hf) hn (h3.keepW (hP _ p1) hk) (h4.keepW (hP _ p2) hk)).mono ?_
  rintro e w' ⟨rfl,h3,h4⟩
  rw [dkC_set_sure hl f hf] at h3
  exact ⟨rfl,h3,h4⟩
 | mv a b =>
  obtain ⟨ba,bb,rfl,rfl,h3,h4,p1,p2⟩:=h
  refine ⟨_,_,_,rfl,enters_of Tryz.func134 (by kernel_rfl) rfl, ?_⟩
  intro w1 d1 lv hb hl hok hfit hfit2 hk
  obtain ⟨ha,hbb,hab⟩:=hok
  refine (mvDoes_c D 17 ba bb a b (fl d1.sure a) (fl d1.sure b) _ _ w1 hb ha hbb hab (dkC_sure hl a ha) (dkC_sure hl b hbb) (h3.keepW (hP _ p1) hk) (h4.keepW (hP _ p2) hk) (hP _ p1) (hP _ p2)).mono ?_
  rintro e w' ⟨rfl,h3,h4⟩
  have hl2:Dk.Len { d1 with sure:=d1.sure.set b (fl d1.sure a) }:=⟨hl.n,by rw [List.length_set]; exact hl.s⟩
  rw [dkC_set_sure hl b hbb,dkC_set_sure hl2 a ha] at h3
  exact ⟨rfl,h3,h4⟩
theorem gone_take (cs:List Chg) (l:Fls) (k:Nat) (h:k < cs.length):gone (cs.take (k + 1)) l = cs[k].does (gone (cs.take k) l):=by
 rw [List.take_succ_eq_append_getElem h,gone_app]; rfl
theorem Runs.at {room:Int} {l:Fls} {cs:List Chg} (h:Runs room l cs) (k:Nat) (hk:k < cs.length):cs[k].okIn (gone (cs.take k) l) ∧ (Dk.sum (gone (cs.take k) l):Int) ≤ room ∧ (Dk.sum (cs[k].does (gone (cs.take k) l)):Int) ≤ room:=by
 have h1:=h.drop k
 rw [List.drop_eq_getElem_cons hk] at h1
 exact ⟨h1.2.1,h1.1,h1.2.2.first⟩
theorem mm_if (n:Int) (m:Nat):(if (if (m:Int) < n then (m:Int) else n) < 0 then 0 else if (m:Int) < n then (m:Int) else n) = ((clip n m:Nat):Int):=by unfold clip; split <;> split <;> omega
theorem crash_fin {W:World} {D:Nat} {d:Dk} {KP:Fls} {lv:Value} (hl:KP.length = 16) (h:Blk W D 101 (dkC { d with now:=KP,sure:=KP } lv)) :
  Blk (((W.setCell ⟨D,33,none⟩ (.slice none 0 0)).setCell ⟨D,34,none⟩ (.bool false)).setCell ⟨D,35,none⟩ (.int .i64 (-1))) D 101 (dkC ⟨d.room,KP,KP,[],false, -1⟩ (.slice none 0 0)):=by
 have h1:Dk.Len { d with now:=KP,sure:=KP }:=⟨hl,hl⟩
 have h2:Dk.Len { d with now:=KP,sure:=KP,off:=false }:=⟨hl,hl⟩
 have:=((h.set 33 (.slice none 0 0)).set 34 (.bool false)).set 35 (.int .i64 (-1))
 rw [dkC_set_33 h1,dkC_set_34 h1,dkC_set_35 h2] at this
 exact this
theorem kept_len16 {w:World} {M:Nat → Prop} {D:Nat} {d:Dk} (h:DkAt w M D d) (c b:Int):(d.kept c b).length = 16:=Dk.kept_len h.inv c b
structure CrR (w:World) (D:Nat) (d:Dk) (lv:Value) (k:Nat) (wr:World):Prop where
 blk:Blk wr D 101 (dkC { d with sure:=gone (d.loose.take k) d.sure } lv)
 fr:Fr (· = D) w wr
set_option maxRecDepth 100000 in
set_option maxHeartbeats 4000000 in
theorem Crash_c (w:World) (M:Nat → Prop) (D:Nat) (d:Dk) (h:DkAt w M D d) (changes bytes:Int) (hll:d.loose.length ≤ 1000000000) :
  Calls Tryz.prog 28 #[px D, .int .i64 changes, .int .i64 bytes] w fun e w' => e = .returned (.tuple #[]) ∧ DkTo w w' M D (d.crash changes bytes):=by
 obtain ⟨lv,hb,hL⟩:=id h.ex
 obtain ⟨cells,hown,hcs⟩:=id hL.ex
 have hld:=h.inv.len
 have hDlt:=h.lt D h.mem
 have HH:=Lib.hid h
 have HB:=Lib.hid hb
 have HRN:=Lib.hid h.inv.runs
 have HRM:=Lib.hid h.inv.room2
 have HLD:=Lib.hid hld
 have HCE:Hid (d.crash changes bytes = ⟨d.room,d.kept changes bytes,d.kept changes bytes,[],false, -1⟩):=rfl
 have HI:=Lib.hid (h.inv.crash changes bytes)
 have HKE:Hid (d.kept changes bytes = match d.loose.drop (clip changes d.loose.length) with
  | [] => gone (d.loose.take (clip changes d.loose.length)) d.sure
  | c :: _ => c.part bytes (gone (d.loose.take (clip changes d.loose.length)) d.sure)):=rfl
 have hcl:=clip_le changes d.loose.length
 have hmm:=mm_if changes d.loose.length
 have HGL:Hid (∀ k,(gone (d.loose.take k) d.sure).length = 16):=fun k => (gone_len _ _).trans hld.s
 have HROW:Hid (∃ la lc,lv = .slice la d.loose.length lc ∧ d.loose.length ≤ lc ∧ lc ≤ maxLen ∧ (d.loose.length = 0 ∨ ∃ g,la = some ⟨g,0,none⟩ ∧ g ≠ D ∧ g < w.heap.size ∧ ∀ j,j < d.loose.length * 2 → w.cell? ⟨g,j,none⟩ = cells[j]?)):=by
  rcases hown.2 with ⟨rfl,h0⟩ | ⟨g,cap,cur,rfl,_,hg,hn,hc,hs,ht⟩
  ·exact ⟨none,0,by rw [h0],by omega,Nat.zero_le _, .inl h0⟩
  ·have hgM:=hL.row g ⟨_,_,_,rfl⟩
   refine ⟨_,cap,rfl,hn,hc, .inr ⟨g,rfl,hgM.2,h.lt g hgM.1,fun j hj => ?_⟩⟩
   rw [cell_of_row w g j cur _ (0,0) hg, ← ht,List.getElem?_take,if_pos hj]
   simp
 have HCS:Hid (∀ i c,d.loose[i]? = some c → ∃ K p q v2,cells[i * 2]? = some (.func (.func K) #[] #[p,q]) ∧ cells[i * 2 + 1]? = some v2 ∧ (∀ args w,(callFunc K args).run Tryz.prog w = .ok (.enter K args) w) ∧ DoesS K p q D c w ∧
   ChgAt w (fun b => b < w.heap.size ∧ b ≠ D) (.func (.func K) #[] #[p,q]) v2 c):=by
  intro i c hic
  obtain ⟨hi,rfl⟩:=List.getElem?_eq_some_iff.1 hic
  obtain ⟨v1,v2,q1,q2,q3⟩:=hcs i hi
  obtain ⟨K,p,q,rfl,e1,e2⟩:=chg_does D q3 (fun b hb => hb.2.1)
  exact ⟨K,p,q,v2,q1,q2,e1,e2,q3.keep (fun b hb => ⟨h.lt b hb.1,hb.2.1⟩) fun _ _ => rfl⟩
 have c33:=(hb.cell 33).trans (dkC_33 hld)
 obtain ⟨la,lc,rfl,hlc,hlmx,hrow⟩:=HROW.out
 clear HROW hb hcs hown hL h hld
 have HROW:=Lib.hid hrow
 clear hrow
 have HM:=Lib.hid hmm
 have hlnn:d.loose.length ≤ 9223372036854775807:=by omega
 generalize hll2:d.loose.length = len at *
 have HLEN:=Lib.hid hll2
 clear hll2
 generalize hn:clip changes len = n at *
 have HN:=Lib.hid hn
 clear hn
 unfold px
 go_enter Tryz.func28,Tryz.ntmps28
 go_upto_region 1 with fail
 go_cut [6] (fun s6 wx => s6 = .int .i64 (n:Int) ∧ wx = w)
 case first =>
  go_wp2_with fail
  all_goals
   go_meet
   refine ⟨?_,rfl⟩
   first | rfl | (congr 1; omega)
 case rest =>
 obtain ⟨rfl,rfl⟩:=hcut
 clear hmm HM
 have hnn:n ≤ 9223372036854775807:=by omega
 have hnc:n ≤ lc:=by omega
 go_upto_region 3 with fail
 go_loopw [26] (fun q wr => ∃ k:Nat,q = .int .i64 (k:Int) ∧ k ≤ n ∧ CrR wc D d (.slice la len lc) k wr) (fun q _ => n - (intOf q).toNat)
 case atStart => exact ⟨0,rfl,Nat.zero_le _,⟨by rw [List.take_zero]; exact HB.out,Fr.refl _ _⟩⟩
 case round =>
  obtain ⟨k,rfl,hk,hR⟩:=hrel
  by_cases hlt:k < n
  ·obtain ⟨g,rfl,hgD,hglt,hgc⟩:∃ g,la = some ⟨g,0,none⟩ ∧ g ≠ D ∧ g < wc.heap.size ∧ ∀ j,j < len * 2 → wc.cell? ⟨g,j,none⟩ = cells[j]? := by
    rcases HROW.out with h0 | h0
    ·omega
    ·exact h0
   have hkl:k < d.loose.length:=by rw [HLEN.out]; omega
   obtain ⟨K,p,q,v2,q1,q2,eg,hdo,hch⟩:=HCS.out k d.loose[k] (List.getElem?_eq_getElem hkl)
   have r0:wr.cell? ⟨g,k * 2,none⟩ = some (.func (.func K) #[] #[p,q]):=(World.cell?_of_block (hR.fr.block g hglt hgD)).trans ((hgc (k * 2) (by omega)).trans q1)
   have r1:wr.cell? ⟨g,k * 2 + 1,none⟩ = some v2:=(World.cell?_of_block (hR.fr.block g hglt hgD)).trans ((hgc (k * 2 + 1) (by omega)).trans q2)
   obtain ⟨ok1,ok2,ok3⟩:=HRN.out.at k hkl
   have HGT:=Lib.hid (gone_take d.loose d.sure k hkl)
   have hst:∀ (a:Addr) (w:World),(store a (.func (.func K) #[] #[p,q])).run Tryz.prog w = stored Tryz.prog w a (.func (.func K) #[] #[p,q]) .plain:=fun a w => run_store _ w a _ _ rfl
   have ho2:v2.oneCell' = true:=by
    generalize d.loose[k] = c at hch
    cases c with
    | app f s => obtain ⟨_,_,_,_,rfl,_⟩:=hch; rfl
    | cut f n => obtain ⟨_,_,_,rfl,_⟩:=hch; rfl
    | mv a b => obtain ⟨_,_,_,rfl,_⟩:=hch; rfl
   have hst2:∀ (a:Addr) (w:World),(store a v2).run Tryz.prog w = stored Tryz.prog w a v2 .plain:=fun a w => run_store _ w a _ _ ho2
   have HDO:=Lib.hid hdo
   have HOK:=Lib.hid (⟨ok1,ok2,ok3⟩:_ ∧ _ ∧ _)
   have hbk:=hR.blk
   have hfr:=hR.fr
   have hDr:=hbk.lt
   generalize d.loose[k] = c at *
   have HS16:=HGL.out k
   generalize hS:gone (d.loose.take k) d.sure = S at *
   clear hch hdo hR q1 q2 hgc ok1 ok2 ok3 hkl
   go_upto_region 5 with fail
   have hbk2:=hbk.alloc (.cells #[.func (.func K) #[] #[p,q],v2] 124)
   have hfr2:=hfr.alloc (.cells #[.func (.func K) #[] #[p,q],v2] 124)
   have hC:=Blk.new wr #[.func (.func K) #[] #[p,q],v2] 124
   have e0:=hC.cell 0
   generalize World.alloc wr _ = W1 at *
   have HCA:Hid (∀ W:World,W.heap = W1.heap → Calls Tryz.prog K #[.pointer (some ⟨D,17,none⟩),p,q] W fun e w' => e = .returned (.tuple #[]) ∧ Blk w' D 101 (dkC { d with sure:=c.does S } (.slice (some ⟨g,0,none⟩) len lc)) ∧ Fr (· = D) W w'):=by
    intro W hW
    obtain ⟨k1,k2,k3⟩:=HOK.out
    have hr:=HRM.out
    refine HDO.out W { d with sure:=S } _ (by unfold Blk; rw [hW]; exact hbk2) ⟨HLD.out.n,HS16⟩ k1 (by show Dk.sum (c.does S) ≤ _; omega) (by show Dk.sum S ≤ _; omega) (fun b hb hne => ?_)
    rw [hW]
    exact hfr2.block b hb hne
   go_region_with (first | (refine (HCA.out W1.drew rfl).mono ?_; rintro e w2 ⟨rfl,hb2,hf2⟩))
   all_goals
    have HF2:Hid (Fr (· = D) wc w2):=hfr2.trans hf2.undrew
    have HB2:=Lib.hid hb2
    clear hb2 hf2
    go_wp2_with fail
    go_roundw
    case rel => exact ⟨k + 1,by go_num,by omega,⟨by rw [HGT.out]; exact HB2.out,HF2.out⟩⟩
    case measure => simp [intOf]; omega
  ·obtain rfl:k = n:=by omega
   have hbk:=hR.blk
   have hfr:=hR.fr
   have c33r:=(hbk.cell 33).trans (dkC_33 (d:={ d with sure:=gone (d.loose.take k) d.sure }) ⟨HLD.out.n,HGL.out k⟩)
   have HS16:=HGL.out k
   have HFR:=Lib.hid hfr
   have HBK:=Lib.hid hbk
   clear hR
   go_upto_region 7 with fail
   go_cut [54] (fun s54 wx => wx = wr ∧ ((s54 = .bool false ∧ d.kept changes bytes = gone (d.loose.take k) d.sure) ∨ (s54 = .bool true ∧ k < len ∧ ∃ g bf bs f s,la = some ⟨g,0,none⟩ ∧ wr.cell? ⟨g,k * 2 + 1,none⟩ = some (appPartV bf bs) ∧ Bq wr bf (.int .i64 (f:Nat)) ∧ Bq wr bs (.string s) ∧ f < 16 ∧
    (fl (gone (d.loose.take k) d.sure) f).size + s.size ≤ 4194304 ∧ d.kept changes bytes = (Chg.app f s).part bytes (gone (d.loose.take k) d.sure))))
   case first =>
    by_cases hkl:k < len
    ·obtain ⟨g,rfl,hgD,hglt,hgc⟩:∃ g,la = some ⟨g,0,none⟩ ∧ g ≠ D ∧ g < wc.heap.size ∧ ∀ j,j < len * 2 → wc.cell? ⟨g,j,none⟩ = cells[j]? := by
      rcases HROW.out with h0 | h0
      ·omega
      ·exact h0
     have hkl2:k < d.loose.length:=by rw [HLEN.out]; omega
     obtain ⟨K,p,q,v2,q1,q2,eg,hdo,hch⟩:=HCS.out k d.loose[k] (List.getElem?_eq_getElem hkl2)
     have r1:wr.cell? ⟨g,k * 2 + 1,none⟩ = some v2:=(World.cell?_of_block (hfr.block g hglt hgD)).trans ((hgc (k * 2 + 1) (by omega)).trans q2)
     obtain ⟨ok1,ok2,ok3⟩:=HRN.out.at k hkl2
     have HKE2:Hid (d.kept changes bytes = d.loose[k].part bytes (gone (d.loose.take k) d.sure)):=by
      show _ = _
      rw [HKE.out,List.drop_eq_getElem_cons hkl2]
     have HRR:=Lib.hid (⟨ok1,ok2,ok3⟩:_ ∧ _ ∧ _)
     generalize d.loose[k] = c at *
     generalize hS:gone (d.loose.take k) d.sure = S at *
     have hlt:decide ((k:Int) < (len:Int)) = true:=decide_eq_true (by omega)
     clear ok1 ok2 ok3 hgc hdo q1 q2 hkl2 eg hbk
     have hq1:∀ w:World,(binOp .neq 122 .nilFunc .nilFunc).run Tryz.prog w = .ok (.bool false) w:=fun _ => by kernel_rfl
     have hq2:∀ (fn:Fn) (a b:Array Value) (w:World),(binOp .neq 122 (.func fn a b) .nilFunc).run Tryz.prog w = .ok (.bool true) w:=fun _ _ _ _ => by kernel_rfl
     cases c with
     | app f s =>
      obtain ⟨bp,bs,bf,_,rfl,x0,x1,x2,px0,px1,px2⟩:=hch
      have HX1:=Lib.hid (x1.keep (HFR.out.block _ px1.1 px1.2))
      have HX2:=Lib.hid (x2.keep (HFR.out.block _ px2.1 px2.2))
      have HC1:=Lib.hid r1
      unfold appPartV px at r1
      clear x0 x1 x2
      go_wp2_with fail
      go_meet
      refine ⟨rfl, .inr ⟨rfl,hkl,g,bf,bs,f,s,rfl,HC1.out,HX2.out,HX1.out,HRR.out.1, ?_,HKE2.out⟩⟩
      exact app_fitS HS16 HRR.out.1 (by have:=HRR.out.2.2; have:=HRM.out; omega)
     | cut f n =>
      obtain ⟨_,_,_,rfl,_⟩:=hch
      go_wp2_with fail
      go_meet
      exact ⟨rfl, .inl ⟨rfl,HKE2.out⟩⟩
     | mv a b =>
      obtain ⟨_,_,_,rfl,_⟩:=hch
      go_wp2_with fail
      go_meet
      exact ⟨rfl, .inl ⟨rfl,HKE2.out⟩⟩
    ·have hlt:decide ((k:Int) < (len:Int)) = false:=decide_eq_false (by omega)
     have HKE2:Hid (d.kept changes bytes = gone (d.loose.take k) d.sure):=by
      show _ = _
      rw [HKE.out,List.drop_of_length_le (by rw [HLEN.out]; omega)]
     clear hfr hbk
     go_wp2_with fail
     go_meet
     exact ⟨rfl, .inl ⟨rfl,HKE2.out⟩⟩
   case rest =>
   obtain ⟨hwx,hcut⟩:=hcut
   subst hwx
   have HKL:Hid ((d.kept changes bytes).length = 16):=kept_len16 HH.out changes bytes
   have HKI:Hid ((Tryz.prog.info? 98).map (·.size) = some ((d.kept changes bytes).map Value.string).length):=by show _ = _; rw [List.length_map,HKL.out]; exact files_size
   have HFIN:Hid (∀ w':World,Blk w' D 101 (dkC (d.crash changes bytes) (.slice none 0 0)) → Fr (· = D) _ w' → DkTo _ w' M D (d.crash changes bytes)):=fun w' h1 h2 => HH.out.set HI.out h1 h2 (LooseAt.nil _ _ _)
   clear hbk hfr c33r c33 HKE HI HN HRN HGL HLEN hk hlt
   rcases hcut with ⟨rfl,hke⟩ | ⟨rfl,hkl,g,bf,bs,f,s,rfl,r1,x1,x2,hf,hfit,hke⟩
   ·rw [← hke] at HBK
    clear hke
    generalize d.kept changes bytes = KP at *
    have HL2:Hid (Dk.Len { d with sure:=KP }):=⟨HLD.out.n,HKL.out⟩
    have HL3:Hid (Dk.Len { d with now:=KP,sure:=KP }):=⟨HKL.out,HKL.out⟩
    have HRS:=Lib.hid (dk_range_sure HBK.out HL2.out)
    have HTS:=Lib.hid (dk_there HBK.out HL2.out 1 16 (by omega))
    have HBN:=Lib.hid (dk_store_now HBK.out HL2.out)
    have e33:=(HBN.out.cell 33).trans (dkC_33 HL3.out)
    have e34:=(HBN.out.cell 34).trans (dkC_34 HL3.out)
    have e35:=(HBN.out.cell 35).trans (dkC_35 HL3.out)
    have g33:=HBN.out.free 33
    have g34:=HBN.out.free 34
    have g35:=HBN.out.free 35
    go_wp2_with (first | (refine wpList_load_mid rfl 98 (.tmp 74) rfl D 17 rfl _ _ HRS.out Tryz.underlying98 rfl HKI.out ?_) | (refine wpList_store_mid rfl 98 (.tmp 77) (.tmp 75) rfl D 1 (KP.map Value.string).toArray rfl rfl (by simpa [HKL.out] using HTS.out) (by simpa using HKI.out) (strs_one KP) ?_) | fail)
    go_end0
    refine ⟨rfl,HFIN.out _ (by rw [HCE.out]; exact crash_fin HKL.out HBN.out) ?_⟩
    exact ((((HFR.out.setCells D _ 1 _ (.inl rfl)).setCell (p:=⟨D,33,none⟩) (.inl rfl) _).setCell (p:=⟨D,34,none⟩) (.inl rfl) _).setCell (p:=⟨D,35,none⟩) (.inl rfl) _)
   ·have HPC:Hid (∀ W:World,W.heap = wc.heap → Calls Tryz.prog 129 #[.pointer (some ⟨D,17,none⟩), .int .i64 bytes,px bf,px bs] W fun e w' => e = .returned (.tuple #[]) ∧ Blk w' D 101 (dkC { d with sure:=d.kept changes bytes } (.slice (some ⟨g,0,none⟩) len lc)) ∧ Fr (· = D) W w'):=by
     intro W hW
     have hlS:Dk.Len { d with sure:=gone (d.loose.take k) d.sure }:=⟨HLD.out.n,HS16⟩
     refine (appPart_c D 17 bf bs f s (fl (gone (d.loose.take k) d.sure) f) bytes _ _ W (by unfold Blk; rw [hW]; exact HBK.out) hf (dkC_sure hlS f hf) (.inl (by omega)) (x1.keep (by rw [hW])) (x2.keep (by rw [hW]))).mono ?_
     rintro e w' ⟨rfl,h3,h4⟩
     rw [dkC_set_sure hlS f hf] at h3
     refine ⟨rfl, ?_,h4⟩
     rw [hke]
     exact h3
    have c33:=(HBK.out.cell 33).trans (dkC_33 (d:={ d with sure:=gone (d.loose.take k) d.sure }) ⟨HLD.out.n,HS16⟩)
    have hDx:=HBK.out.lt
    have hlt2:(k:Int) < (len:Int):=by omega
    unfold appPartV px at r1
    unfold px at HPC
    clear x1 x2 hke HBK hf hfit HS16
    generalize d.kept changes bytes = KP at *
    go_upto_region 8 with fail
    go_region_with (first | (refine (HPC.out wc.drew rfl).mono ?_; rintro e w2 ⟨rfl,hb2,hf2⟩))
    all_goals
     have HFR:=Lib.hid (HFR.out.trans hf2.undrew)
     have HBK:=Lib.hid hb2
     clear hb2 hf2
     have HL2:Hid (Dk.Len { d with sure:=KP }):=⟨HLD.out.n,HKL.out⟩
     have HL3:Hid (Dk.Len { d with now:=KP,sure:=KP }):=⟨HKL.out,HKL.out⟩
     have HRS:=Lib.hid (dk_range_sure HBK.out HL2.out)
     have HTS:=Lib.hid (dk_there HBK.out HL2.out 1 16 (by omega))
     have HBN:=Lib.hid (dk_store_now HBK.out HL2.out)
     have e33:=(HBN.out.cell 33).trans (dkC_33 HL3.out)
     have e34:=(HBN.out.cell 34).trans (dkC_34 HL3.out)
     have e35:=(HBN.out.cell 35).trans (dkC_35 HL3.out)
     have g33:=HBN.out.free 33
     have g34:=HBN.out.free 34
     have g35:=HBN.out.free 35
     go_wp2_with (first | (refine wpList_load_mid rfl 98 (.tmp 74) rfl D 17 rfl _ _ HRS.out Tryz.underlying98 rfl HKI.out ?_) | (refine wpList_store_mid rfl 98 (.tmp 77) (.tmp 75) rfl D 1 (KP.map Value.string).toArray rfl rfl (by simpa [HKL.out] using HTS.out) (by simpa using HKI.out) (strs_one KP) ?_) | fail)
     go_end0
     refine ⟨rfl,HFIN.out _ (by rw [HCE.out]; exact crash_fin HKL.out HBN.out) ?_⟩
     exact ((((HFR.out.setCells D _ 1 _ (.inl rfl)).setCell (p:=⟨D,33,none⟩) (.inl rfl) _).setCell (p:=⟨D,34,none⟩) (.inl rfl) _).setCell (p:=⟨D,35,none⟩) (.inl rfl) _)
end Go.Proofs.YtpkijdkoiecpiaaGreatDoor
