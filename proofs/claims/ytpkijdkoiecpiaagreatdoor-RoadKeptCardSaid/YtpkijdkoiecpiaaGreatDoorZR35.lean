/-
  Parts of the proof: PH PI.
-/
import Derived.Deep.CutBlock
import Derived.Test.YtpkijdkoiecpiaaGreatDoorZR3
import Derived.Test.YtpkijdkoiecpiaaGreatDoorZR20
import Derived.Test.YtpkijdkoiecpiaaGreatDoorZR23
import Derived.Test.YtpkijdkoiecpiaaGreatDoorZR28
import Derived.Test.YtpkijdkoiecpiaaGreatDoorZR34
namespace Go.Proofs.YtpkijdkoiecpiaaGreatDoor
open Go.RowKit
set_option linter.unusedVariables false
set_option linter.unusedSimpArgs false
def numC (l:List Int):List Value:=l.map (Value.int .i64) ++ List.replicate (6 - l.length) (.int .i64 0)
theorem numC_set (l:List Int) (h:l.length < 6) (z:Int):(numC l).set l.length (.int .i64 z) = numC (l ++ [z]):=by
 unfold numC
 rw [List.set_append_right _ _ (by simp),List.length_map,Nat.sub_self,List.map_append,List.length_append,show 6 - l.length = (6 - (l.length + 1)) + 1 by omega,List.replicate_succ]
 simp
theorem numC_full (l:List Int) (h:l.length = 6):numC l = [.int .i64 (l.getD 0 0), .int .i64 (l.getD 1 0), .int .i64 (l.getD 2 0), .int .i64 (l.getD 3 0), .int .i64 (l.getD 4 0), .int .i64 (l.getD 5 0)]:=by
 match l,h with
 | [a,b,c,d,e,f],_ => rfl
def RdN (s u:ByteArray) (l:List Int):Prop:=l.length ≤ 6 ∧ takeN 6 s = (takeN (6 - l.length) u).map (fun q => (l ++ q.1,q.2)) ∧ u.size ≤ s.size ∧ ∀ z ∈ l,I64 z
theorem RdN.start (s:ByteArray):RdN s s []:=⟨Nat.zero_le _,by
 simp only [List.length_nil,Nat.sub_zero,List.nil_append]
 cases takeN 6 s <;> rfl,Nat.le_refl _,by simp⟩
theorem RdN.bad {s u:ByteArray} {l:List Int} (h:RdN s u l) (hl:l.length < 6) (he:(takeS u).2.2 ≠ 0):takeN 6 s = none:=by
 rw [h.2.1,show 6 - l.length = (6 - (l.length + 1)) + 1 by omega]
 unfold takeN
 rw [if_pos he]
 rfl
theorem RdN.more {s u:ByteArray} {l:List Int} (h:RdN s u l) (hl:l.length < 6) (he:(takeS u).2.2 = 0) (hz:I64 (takeS u).1) (k:Nat) (hk:(takeS u).2.1 = (k:Int)):RdN s (u.extract k u.size) (l ++ [(takeS u).1]):=by
 refine ⟨by rw [List.length_append]; simp; omega, ?_,Nat.le_trans (by rw [ByteArray.size_extract]; omega) h.2.2.1, ?_⟩
 ·rw [h.2.1,List.length_append,List.length_singleton,show 6 - l.length = (6 - (l.length + 1)) + 1 by omega]
  conv => lhs; unfold takeN
  rw [if_neg (by simpa using he),hk,Int.toNat_natCast]
  cases takeN (6 - (l.length + 1)) (u.extract k u.size) with
  | none => rfl
  | some q => simp
 ·intro z hz2
  rcases List.mem_append.1 hz2 with h2 | h2
  ·exact h.2.2.2 z h2
  ·rw [List.mem_singleton.1 h2]; exact hz
theorem RdN.done {s u:ByteArray} {l:List Int} (h:RdN s u l) (hl:l.length = 6):takeN 6 s = some (l,u):=by
 rw [h.2.1,hl]
 show Option.map _ (takeN 0 u) = _
 unfold takeN
 simp
theorem stOf_ok {k:Nat} (hk:k < 256) {l:List Int} (hl:∀ z ∈ l,I64 z) {j:Jb} (hj:j.ok):(stOf k l j).Ok:=by
 have h0:∀ i,I64 (l.getD i 0):=by
  intro i
  rw [List.getD_eq_getElem?_getD]
  cases h:l[i]? with
  | none => exact ⟨by decide,by decide⟩
  | some z => exact hl z (List.mem_of_getElem? h)
 exact ⟨hk,h0 0,h0 1,h0 2,hj,h0 3,h0 4,h0 5⟩
def zeroL:List Value:=[.int .u8 0, .int .i64 0, .int .i64 0, .int .i64 0, .int .i64 0, .slice none 0 0, .int .i64 0, .int .i64 0, .int .i64 0]
def zeroC:Array Value:=#[.int .u8 0, .int .i64 0, .int .i64 0, .int .i64 0, .int .i64 0, .slice none 0 0, .int .i64 0, .int .i64 0, .int .i64 0]
def ReadP (k:Nat) (s:ByteArray) (w:World) (e:Ending) (w':World):Prop :=
 ∃ y sa sn sc b,e = .returned (.tuple #[.agg (stC y (.slice sa sn sc)), .bool b]) ∧ Below w.heap.size w w' ∧ match readSt k s with
  | none => b = false
  | some x => b = true ∧ y = x ∧ x.Ok ∧ x.mayB = true ∧ NodesIn w' (fun c => w.heap.size ≤ c ∧ c < w'.heap.size) x.job.nodes (.slice sa sn sc)
structure RdR (w:World) (s u:ByteArray) (l:List Int) (wr:World):Prop where
 rd:RdN s u l
 below:Below w.heap.size w wr
 res:Blk wr w.heap.size 29 zeroC
 nums:Blk wr (w.heap.size + 1) 192 (numC l).toArray
theorem eql_dec (a b:ByteArray):(a.toList == b.toList) = decide (a = b):=by
 rw [ByteArray.toList_eq,ByteArray.toList_eq]
 by_cases h:a = b
 ·subst h; simp
 ·have:a.data.toList ≠ b.data.toList:=fun k => h (by obtain ⟨⟨a⟩⟩:=a; obtain ⟨⟨b⟩⟩:=b; simpa using k)
  rw [decide_eq_false h,beq_eq_false_iff_ne]
  exact this
theorem setL_all9:∀ (l m:List Value),l.length = 9 → m.length = 9 → setL l 0 m = m
 | [_,_,_,_,_,_,_,_,_],[_,_,_,_,_,_,_,_,_],_,_ => rfl
theorem takeT_small (u:ByteArray):(takeT u).1.size ≤ 65536:=by
 by_cases h:(takeT u).2.2 = 0
 ·exact (takeT_back u h).1
 ·rw [(takeT_err u h).1]; decide
theorem takeJ_ok (s:ByteArray):(takeJ s).1.ok:=by
 by_cases h:(takeJ s).2 = 0
 ·exact (takeJ_back s h).1
 ·rw [takeJ_err s h]; exact ⟨by decide,by decide,by simp⟩
theorem Blk.set9 {w:World} {g:Nat} {t:TypeId} {cs:Array Value} (h:Blk w g t cs) (hc:cs.size = 9) (a0 a1 a2 a3 a4 a5 a6 a7 a8:Value):Blk (((((((((w.setCell ⟨g,0,none⟩ a0).setCell ⟨g,1,none⟩ a1).setCell ⟨g,2,none⟩ a2).setCell ⟨g,3,none⟩ a3).setCell ⟨g,4,none⟩ a4).setCell ⟨g,5,none⟩ a5).setCell ⟨g,6,none⟩ a6).setCell ⟨g,7,none⟩ a7).setCell ⟨g,8,none⟩ a8) g t #[a0,a1,a2,a3,a4,a5,a6,a7,a8]:=by
 have h9:=(((((((((h.set 0 a0).set 1 a1).set 2 a2).set 3 a3).set 4 a4).set 5 a5).set 6 a6).set 7 a7).set 8 a8)
 have e:∀ l:List Value,l.length = 9 → (((((((((l.toArray.setIfInBounds 0 a0).setIfInBounds 1 a1).setIfInBounds 2 a2).setIfInBounds 3 a3).setIfInBounds 4 a4).setIfInBounds 5 a5).setIfInBounds 6 a6).setIfInBounds 7 a7).setIfInBounds 8 a8) = #[a0,a1,a2,a3,a4,a5,a6,a7,a8]:=fun l hl => by
  match l,hl with
  | [c0,c1,c2,c3,c4,c5,c6,c7,c8],_ => simp only [List.setIfInBounds_toArray,List.set_cons_zero,List.set_cons_succ]
 have e2:=e cs.toList (by rw [Array.length_toList,hc])
 rw [Array.toArray_toList] at e2
 rw [e2] at h9
 exact h9
theorem below_set9 {w W:World} {n g:Nat} (h:Below n w W) (hg:n ≤ g) (a0 a1 a2 a3 a4 a5 a6 a7 a8:Value):Below n w (((((((((W.setCell ⟨g,0,none⟩ a0).setCell ⟨g,1,none⟩ a1).setCell ⟨g,2,none⟩ a2).setCell ⟨g,3,none⟩ a3).setCell ⟨g,4,none⟩ a4).setCell ⟨g,5,none⟩ a5).setCell ⟨g,6,none⟩ a6).setCell ⟨g,7,none⟩ a7).setCell ⟨g,8,none⟩ a8):=(((((((((h.setCell (p:=⟨g,0,none⟩) hg _).setCell (p:=⟨g,1,none⟩) hg _).setCell (p:=⟨g,2,none⟩) hg _).setCell (p:=⟨g,3,none⟩) hg _).setCell (p:=⟨g,4,none⟩) hg _).setCell (p:=⟨g,5,none⟩) hg _).setCell (p:=⟨g,6,none⟩) hg _).setCell (p:=⟨g,7,none⟩) hg _).setCell (p:=⟨g,8,none⟩) hg _)
theorem other_set9 {W:World} {g k:Nat} (hk:k ≠ g) (a0 a1 a2 a3 a4 a5 a6 a7 a8:Value):(((((((((W.setCell ⟨g,0,none⟩ a0).setCell ⟨g,1,none⟩ a1).setCell ⟨g,2,none⟩ a2).setCell ⟨g,3,none⟩ a3).setCell ⟨g,4,none⟩ a4).setCell ⟨g,5,none⟩ a5).setCell ⟨g,6,none⟩ a6).setCell ⟨g,7,none⟩ a7).setCell ⟨g,8,none⟩ a8).heap[k]? = W.heap[k]? := by
 rw [heap_setCell_other _ ⟨g,8,none⟩ k _ hk,heap_setCell_other _ ⟨g,7,none⟩ k _ hk,heap_setCell_other _ ⟨g,6,none⟩ k _ hk,heap_setCell_other _ ⟨g,5,none⟩ k _ hk,heap_setCell_other _ ⟨g,4,none⟩ k _ hk,heap_setCell_other _ ⟨g,3,none⟩ k _ hk,heap_setCell_other _ ⟨g,2,none⟩ k _ hk,heap_setCell_other _ ⟨g,1,none⟩ k _ hk,heap_setCell_other _ ⟨g,0,none⟩ k _ hk]
theorem size_set9 {W:World} {g:Nat} (a0 a1 a2 a3 a4 a5 a6 a7 a8:Value):(((((((((W.setCell ⟨g,0,none⟩ a0).setCell ⟨g,1,none⟩ a1).setCell ⟨g,2,none⟩ a2).setCell ⟨g,3,none⟩ a3).setCell ⟨g,4,none⟩ a4).setCell ⟨g,5,none⟩ a5).setCell ⟨g,6,none⟩ a6).setCell ⟨g,7,none⟩ a7).setCell ⟨g,8,none⟩ a8).heap.size = W.heap.size:=by simp
theorem Blk.far9 {W:World} {g B:Nat} {t:TypeId} {cs:Array Value} (h:Blk W B t cs) (hne:B ≠ g) (a0 a1 a2 a3 a4 a5 a6 a7 a8:Value):Blk (((((((((W.setCell ⟨g,0,none⟩ a0).setCell ⟨g,1,none⟩ a1).setCell ⟨g,2,none⟩ a2).setCell ⟨g,3,none⟩ a3).setCell ⟨g,4,none⟩ a4).setCell ⟨g,5,none⟩ a5).setCell ⟨g,6,none⟩ a6).setCell ⟨g,7,none⟩ a7).setCell ⟨g,8,none⟩ a8) B t cs:=(other_set9 hne _ _ _ _ _ _ _ _ _).trans h
structure RdE (D:Bool) (w:World) (B N:Nat) (y:St) (sv:Value) (W:World):Prop where
 below:Below w.heap.size w W
 res:∃ l:List Value,l.length = 9 ∧ Blk W w.heap.size 29 l.toArray ∧ (D = true → l.toArray = stC y sv)
 x:Blk W B 29 (stC y sv)
 ns:NodesIn W (fun c => w.heap.size < c ∧ c ≠ B ∧ c < N) y.job.nodes sv
 hB:w.heap.size < B
 hN:N ≤ W.heap.size
namespace RdE
variable {D:Bool} {w W W':World} {B N:Nat} {y:St} {sv:Value}
theorem there (h:RdE D w B N y sv W):W.there w.heap.size 0 (stC y sv).size:=by
 obtain ⟨l,hl,hb,_⟩:=h.res
 intro j hj
 have hj9:j < 9:=hj
 refine ⟨?_,hb.free _⟩
 rw [hb.cell,Nat.zero_add,List.getElem?_toArray,List.getElem?_eq_getElem (by omega)]
 rfl
theorem bl (h:RdE D w B N y sv W) (hb:Below W.heap.size W W'):RdE D w B N y sv W':=by
 obtain ⟨l,hl,hr,hd⟩:=h.res
 exact ⟨h.below.trans (hb.mono h.below.size),⟨l,hl,hr.below hb hr.lt,hd⟩,h.x.below hb h.x.lt,h.ns.keep (fun _ k => k) fun b k => hb.block b (Nat.lt_of_lt_of_le k.2.2 h.hN),h.hB,Nat.le_trans h.hN hb.size⟩
theorem drew (h:RdE D w B N y sv W):RdE D w B N y sv W.drew :=
 ⟨h.below.drew,let ⟨l,hl,hr,hd⟩:=h.res; ⟨l,hl,hr.drew,hd⟩,h.x.drew,h.ns.keep (fun _ k => k) fun b k => rfl,h.hB,h.hN⟩
theorem below_setCells {n:Nat} {a:World} (b:Nat) (hb:n ≤ b):∀ (vs:List Value) (o:Nat) (w:World),Below n a w → Below n a (w.setCells b o vs)
 | [],_,_,h => h
 | v :: vs,o,w,h => below_setCells b hb vs (o + 1) _ (h.setCell (p:=⟨b,o,none⟩) hb v)
theorem store (h:RdE D w B N y sv W):RdE true w B N y sv (W.setCells w.heap.size 0 (stC y sv).toList):=by
 obtain ⟨l,hl,hb,_⟩:=h.res
 have e:=Blk.setCells (stC y sv).toList 0 hb
 rw [setL_all9 _ _ hl rfl] at e
 refine ⟨below_setCells _ (Nat.le_refl _) _ _ _ h.below,⟨_,rfl,e,fun _ => rfl⟩, ?_, ?_,h.hB,by rw [setCells_size]; exact h.hN⟩
 ·exact h.x.same (setCells_other _ (by have:=h.hB; omega) _ _ _)
 ·exact h.ns.keep (fun _ k => k) fun b k => setCells_other _ (by have:=k.1; omega) _ _ _
end RdE
set_option maxRecDepth 100000 in
set_option maxHeartbeats 8000000 in
theorem roRead_c (k:Nat) (hk0:0 < k) (hk1:k < 256) (s:ByteArray) (hs:s.size ≤ 140737488355328) (w:World):Calls Tryz.prog 58 #[.int .u8 (k:Int), .string s] w (ReadP k s w):=by
 go_enter Tryz.func58,Tryz.ntmps58
 go_upto_region 2 with fail
 have hR0:RdR w s s [] ((w.alloc (.cells zeroC 29)).alloc (.cells (numC []).toArray 192)) :=
  ⟨RdN.start s,two_below w _ _ _ _,(Blk.new w _ _).alloc _,Blk.new_at _ _ _ (by simp)⟩
 unfold zeroC at hR0
 simp only [numC,List.map_nil,List.length_nil,Nat.sub_zero,List.replicate,List.nil_append] at hR0
 generalize World.alloc (World.alloc w _) _ = W0 at *
 go_upto_region 4 with fail
 go_loopw [7,17] (fun t7 q wr => ∃ (l:List Int) (u:ByteArray),q = .int .i64 (l.length:Int) ∧ t7 = .string u ∧ RdR w s u l wr) (fun _ q _ => 6 - (intOf q).toNat)
 case atStart => exact ⟨[],s,rfl,rfl,hR0⟩
 case round =>
  obtain ⟨l,u,rfl,rfl,hR⟩:=hrel
  have hrd:=hR.rd
  by_cases hl:l.length < 6
  ·have HRD:=Lib.hid hrd
   have hul:=hrd.2.2.1
   have HTK:Hid (∀ W:World,Calls Tryz.prog 90 #[.string u] W fun e w' => e = .returned (.tuple #[.int .i64 (takeS u).1, .int .i64 (takeS u).2.1, .int .i64 (takeS u).2.2]) ∧ W = w'):=fun W => Take_c u (by omega) W
   obtain ⟨m,hm,hmu,hz1,hz2⟩:=takeS_size u
   have hl6i:(l.length:Int) < 6:=by omega
   by_cases he:(takeS u).2.2 = 0
   ·have HM:=Lib.hid (hrd.more hl he ⟨hz1,hz2⟩ m hm)
    rw [he,hm] at HTK
    generalize (takeS u).1 = z at *
    have hNn:=hR.nums
    have hnc:(numC l)[l.length]? = some (.int .i64 0):=by
     unfold numC
     rw [List.getElem?_append_right (by simp),List.length_map,Nat.sub_self,show 6 - l.length = (6 - (l.length + 1)) + 1 by omega,List.replicate_succ]
     rfl
    have cn:wr.cell? ⟨w.heap.size + 1,l.length,none⟩ = some (.int .i64 0):=by rw [hNn.cell,List.getElem?_toArray]; exact hnc
    have fn:=hNn.free l.length
    have hmi:(m:Int) ≤ (u.size:Int):=by omega
    have hm0:(0:Int) ≤ (m:Int):=by omega
    have hln:=hNn.lt
    have HRR:=Lib.hid hR
    have HSET:=Lib.hid (numC_set l hl z)
    have hl0:(0:Int) ≤ (l.length:Int):=by omega
    clear hR hrd he hm hNn hnc hz1 hz2
    generalize hll:l.length = i at *
    have HLL:=Lib.hid hll
    clear hll
    go_upto_region 9 with (first | (go_at_call 90; refine (HTK.out _).mono ?_; rintro e w1 ⟨rfl,rfl⟩) | fail)
    go_region
    all_goals
     go_wp2_with fail
     go_roundw
     case rel =>
      refine ⟨l ++ [z],u.extract m u.size,by rw [List.length_append,HLL.out]; go_num,rfl,HM.out,(HRR.out.below.setCell (p:=⟨w.heap.size + 1,i,none⟩) (Nat.le_succ _) _).drew,(HRR.out.res.other (p:=⟨w.heap.size + 1,i,none⟩) (by show w.heap.size ≠ w.heap.size + 1; omega) _).drew, ?_⟩
      have:=(HRR.out.nums.set i (.int .i64 z)).drew
      rw [List.setIfInBounds_toArray,HSET.out] at this
      exact this
     case measure => simp [intOf]; omega
   ·have HBAD:=Lib.hid (hrd.bad hl he)
    have HRR:=Lib.hid hR
    have hres:=hR.res
    have HTH:Hid (wr.there w.heap.size 0 9):=fun j hj => ⟨by rw [hR.res.cell,Nat.zero_add]; simp [zeroC,hj],hR.res.free _⟩
    rcases hts:takeS u with ⟨tz,tm,te⟩
    rw [hts] at he
    simp only [hts] at HTK
    have d2:(te != 0) = true:=by simpa using he
    clear hR hrd he hts hz1 hz2 hm hmu
    go_upto_region 8 with (first | (go_at_call 90; refine (HTK.out _).mono ?_; rintro e w1 ⟨rfl,rfl⟩) | fail)
    have r0:=hres.cell 0
    have r1:=hres.cell 1
    have r2:=hres.cell 2
    have r3:=hres.cell 3
    have r4:=hres.cell 4
    have r5:=hres.cell 5
    have r6:=hres.cell 6
    have r7:=hres.cell 7
    have r8:=hres.cell 8
    have q0:=hres.free 0
    have q1:=hres.free 1
    have q2:=hres.free 2
    have q3:=hres.free 3
    have q4:=hres.free 4
    have q5:=hres.free 5
    have q6:=hres.free 6
    have q7:=hres.free 7
    have q8:=hres.free 8
    have HRES:=Lib.hid hres
    unfold zeroC at r0 r1 r2 r3 r4 r5 r6 r7 r8
    clear hres HTH
    go_wp2_with fail
    refine bodyPost_ret (v := .tuple #[.agg #[_,_,_,_,_,_,_,_,_], .bool false]) (results_cell_row2P rfl _ _ w.heap.size 29 _ (0,0) _ rfl (Blk.set9 HRES.out rfl _ _ _ _ _ _ _ _ _) Tryz.underlying29 rfl ?_ (.bool false) rfl) rfl ⟨⟨0,0,0,0,⟨0,[]⟩,0,0,0⟩,none,0,0,false,rfl,below_set9 HRR.out.below (Nat.le_refl _) _ _ _ _ _ _ _ _ _, ?_⟩
    ·kernel_rfl
    ·have:readSt k s = none:=by unfold readSt; rw [HBAD.out]
     rw [this]
  ·have hl6:l.length = 6:=by have:=hrd.1; omega
   have htk:=Lib.hid (hrd.done hl6)
   have hi6:=hrd.2.2.2
   have hNn:=hR.nums
   rw [numC_full l hl6] at hNn
   have hn0:=hNn.cell 0
   have hn1:=hNn.cell 1
   have hn2:=hNn.cell 2
   have hn3:=hNn.cell 3
   have hn4:=hNn.cell 4
   have hn5:=hNn.cell 5
   have hus:=hrd.2.2.1
   have HRR:=Lib.hid hR
   have HOK:Hid (∀ j:Jb,j.ok → (stOf k l j).Ok):=fun j hj => stOf_ok hk1 hi6 hj
   have HRS:Hid (readSt k s = (if (stOf k l (if k = 1 then (takeJ (takeT u).1).1 else ⟨0,[]⟩)).mayB = true ∧ (stOf k l (if k = 1 then (takeJ (takeT u).1).1 else ⟨0,[]⟩)).text = s then some (stOf k l (if k = 1 then (takeJ (takeT u).1).1 else ⟨0,[]⟩)) else none)):=by
    show _ = _
    unfold readSt
    rw [htk.out]
   have HST:Hid (∀ j sv,stC (stOf k l j) sv = #[.int .u8 (k:Int), .int .i64 (l.getD 0 0), .int .i64 (l.getD 1 0), .int .i64 (l.getD 2 0), .int .i64 j.par,sv, .int .i64 (l.getD 3 0), .int .i64 (l.getD 4 0), .int .i64 (l.getD 5 0)]):=fun j sv => rfl
   have HJOB:Hid (∀ j,(stOf k l j).job = j):=fun j => rfl
   have HKD:Hid (∀ j,(stOf k l j).kind = k):=fun j => rfl
   generalize stOf k l = F at *
   generalize l.getD 0 0 = z0 at *
   generalize l.getD 1 0 = z1 at *
   generalize l.getD 2 0 = z2 at *
   generalize l.getD 3 0 = z3 at *
   generalize l.getD 4 0 = z4 at *
   generalize l.getD 5 0 = z5 at *
   clear hrd hR hi6 hNn hl
   have hl6':((l.length:Nat):Int) = 6:=by omega
   rw [hl6']
   clear hl6'
   have hJ0:Hid (RdE false w wr.heap.size wr.heap.size (F ⟨0,[]⟩) (.slice none 0 0) (wr.alloc (.cells #[.int .u8 (k:Int), .int .i64 z0, .int .i64 z1, .int .i64 z2, .int .i64 0, .slice none 0 0, .int .i64 z3, .int .i64 z4, .int .i64 z5] 29))):=by
    have hbw:=HRR.out.below.size
    have h1:=HRR.out.res.lt
    refine ⟨HRR.out.below.alloc hbw _,⟨zeroL,rfl,HRR.out.res.alloc _,fun e => absurd e (by decide)⟩, ?_, ?_,h1,by simp⟩
    ·rw [HST.out]; exact Blk.new wr _ _
    ·rw [HJOB.out]; exact NodesIn.nil _ _
   have hBB:w.heap.size < wr.heap.size:=HRR.out.res.lt
   go_upto_region 12 with fail
   generalize World.alloc wr _ = W0 at *
   generalize wr.heap.size = B at *
   clear hn0 hn1 hn2 hn3 hn4 hn5
   obtain ⟨J,hJJ⟩:∃ J,(if k = 1 then (takeJ (takeT u).1).1 else (⟨0,[]⟩:Jb)) = J:=⟨_,rfl⟩
   rw [hJJ] at HRS
   have hJok:J.ok:=by
    rw [← hJJ]
    split
    ·exact takeJ_ok _
    ·exact ⟨by decide,by decide,by simp⟩
   have HJK:=Lib.hid hJok
   have HJJ:=Lib.hid hJJ
   clear hJJ hJok
   go_upto_if 51 with fail
   go_cut [13,14,15] (fun s13 s14 s15 wx => ∃ sa sn sc,RdE false w B wx.heap.size (F J) (.slice sa sn sc) wx)
   case first =>
    by_cases hk:k = 1
    ·have hkb:((k:Int) == 1) = true:=by rw [beq_iff_eq]; omega
     have HTT:=Lib.hid (TakeText_c u (by omega))
     have hts:=takeT_small u
     have hjj:=HJJ.out
     rw [if_pos hk] at hjj
     generalize takeT u = tt at *
     obtain ⟨t,tm,te⟩:=tt
     dsimp only at hts HTT hjj
     have HPT:=Lib.hid (fun W => packTake_c t (by omega) W)
     unfold TakeJPost at HPT
     generalize takeJ t = tj at *
     obtain ⟨j,je⟩:=tj
     dsimp only at HPT hjj
     subst hjj
     have hx:=hJ0.out.x
     rw [HST.out] at hx
     clear HRS HJJ hk
     go_upto_region 14 with (first | (go_at_call 92; refine (HTT.out _).mono ?_; rintro e w1 ⟨rfl,rfl⟩) | fail)
     go_wp2_with (first | (go_at_call 93; refine (HPT.out _).mono ?_; rintro e w2 ⟨v2,rfl,⟨sv2,rfl,hn2⟩,hb2⟩; obtain ⟨a2,c2,rfl,_,_⟩:=hn2.slice; have hx2:=hx.below hb2 hx.lt; have x4:=hx2.cell 4; have x5:=hx2.cell 5; have y4:=hx2.free 4; have y5:=hx2.free 5) | fail)
     go_meet
     have h2:=hJ0.out.bl hb2
     obtain ⟨rl,hrl,hrb,_⟩:=h2.res
     have hne:w.heap.size ≠ B:=by omega
     have hBl:=hJ0.out.x.lt
     refine ⟨a2,j.nodes.length,c2,(h2.below.setCell (p:=⟨B,4,none⟩) (by show w.heap.size ≤ B; omega) _).setCell (p:=⟨B,5,none⟩) (by show w.heap.size ≤ B; omega) _,⟨rl,hrl,(hrb.other (p:=⟨B,4,none⟩) hne _).other (p:=⟨B,5,none⟩) hne _,fun e => absurd e (by decide)⟩, ?_, ?_,hBB,Nat.le_refl _⟩
     ·rw [HST.out]
      exact (hx2.set 4 _).set 5 _
     ·rw [HJOB.out]
      exact hn2.keep (fun c q => ⟨by omega,by omega,by simpa using q.2⟩) (fun c q => (heap_setCell_other _ ⟨B,5,none⟩ c _ (by show c ≠ B; omega)).trans (heap_setCell_other _ ⟨B,4,none⟩ c _ (by show c ≠ B; omega)))
    ·have hkb:((k:Int) == 1) = false:=by rw [beq_eq_false_iff_ne]; omega
     have hjj:=HJJ.out
     rw [if_neg hk] at hjj
     subst hjj
     go_wp2_with fail
     go_meet
     have:=hJ0.out
     exact ⟨none,0,0,⟨this.below,this.res,this.x,this.ns.keep (fun c q => ⟨q.1,q.2.1,Nat.lt_of_lt_of_le q.2.2 this.hN⟩) (fun _ _ => rfl),this.hB,Nat.le_refl _⟩⟩
   case rest =>
   obtain ⟨sa,sn,sc,hJ⟩:=hcut
   obtain ⟨rl,hrl,hrb,_⟩:=hJ.res
   obtain ⟨e0,e1,e2,e3,e4,e5,e6,e7,e8,rfl⟩:∃ e0 e1 e2 e3 e4 e5 e6 e7 e8,rl = [e0,e1,e2,e3,e4,e5,e6,e7,e8]:=by
    match rl,hrl with
    | [e0,e1,e2,e3,e4,e5,e6,e7,e8],_ => exact ⟨e0,e1,e2,e3,e4,e5,e6,e7,e8,rfl⟩
   have hxb:=hJ.x
   have hOK:=HOK.out J HJK.out
   have HY:Hid (∀ W,(∀ c,w.heap.size < c ∧ c ≠ B ∧ c < wc.heap.size → W.heap[c]? = wc.heap[c]?) → wc.heap.size ≤ W.heap.size → StIn W (fun c => w.heap.size < c ∧ c ≠ B ∧ c < wc.heap.size) (.agg (stC (F J) (.slice sa sn sc))) (F J)) :=
    fun W hk hs => ⟨_,rfl,hJ.ns.keep (fun _ k => k) hk⟩
   have HM:Hid (∀ W,(∀ c,w.heap.size < c ∧ c ≠ B ∧ c < wc.heap.size → W.heap[c]? = wc.heap[c]?) → wc.heap.size ≤ W.heap.size → Calls Tryz.prog 20 #[.agg (stC (F J) (.slice sa sn sc))] W fun e w' => e = .returned (.bool (F J).mayB) ∧ Below W.heap.size W w') :=
    fun W hk hs => roMay_c (F J) hOK _ W _ (HY.out W hk hs) (fun b q => Nat.lt_of_lt_of_le q.2.2 hs)
   have HT:Hid ((F J).mayB = true → ∀ W,(∀ c,w.heap.size < c ∧ c ≠ B ∧ c < wc.heap.size → W.heap[c]? = wc.heap[c]?) → wc.heap.size ≤ W.heap.size → Calls Tryz.prog 62 #[.agg (stC (F J) (.slice sa sn sc))] W fun e w' => e = .returned (.string (F J).text) ∧ Below W.heap.size W w') :=
    fun hm W hk hs => roText_c (F J) hOK hm _ W _ (HY.out W hk hs) (fun b q => Nat.lt_of_lt_of_le q.2.2 hs)
   rw [HST.out] at hxb
   simp only [HST.out] at HM HT
   have HBL:=Lib.hid hJ.below
   have HNS:=Lib.hid hJ.ns
   have HHB:=Lib.hid hJ.hB
   have HRB:=Lib.hid hrb
   have HXB:=Lib.hid hxb
   clear HJJ hrl hJ HY hJ0
   generalize hFM:(F J).mayB = fm at *
   have HFM:=Lib.hid hFM
   clear hFM
   have hk0:∀ c,w.heap.size < c ∧ c ≠ B ∧ c < wc.heap.size → wc.drew.heap[c]? = wc.heap[c]? := fun _ _ => rfl
   have HM0:=Lib.hid (HM.out wc.drew (fun _ _ => rfl) (Nat.le_refl _))
   have r0:=hrb.cell 0
   have r1:=hrb.cell 1
   have r2:=hrb.cell 2
   have r3:=hrb.cell 3
   have r4:=hrb.cell 4
   have r5:=hrb.cell 5
   have r6:=hrb.cell 6
   have r7:=hrb.cell 7
   have r8:=hrb.cell 8
   have q0:=hrb.free 0
   have q1:=hrb.free 1
   have q2:=hrb.free 2
   have q3:=hrb.free 3
   have q4:=hrb.free 4
   have q5:=hrb.free 5
   have q6:=hrb.free 6
   have q7:=hrb.free 7
   have q8:=hrb.free 8
   have x0:=hxb.cell 0
   have x1:=hxb.cell 1
   have x2:=hxb.cell 2
   have x3:=hxb.cell 3
   have x4:=hxb.cell 4
   have x5:=hxb.cell 5
   have x6:=hxb.cell 6
   have x7:=hxb.cell 7
   have x8:=hxb.cell 8
   clear hrb hxb
   cases fm
   ·go_upto_region 15 with fail
    refine wp_region_held_drew (S:=(fun w' => Blk w' B 29 #[.int .u8 (k:Int), .int .i64 z0, .int .i64 z1, .int .i64 z2, .int .i64 J.par, .slice sa sn sc, .int .i64 z3, .int .i64 z4, .int .i64 z5])) (by kernel_rfl) ?_ (fun hHeld => ?_)
    ·exact HXB.out
    refine wpAnyH_take (i:=0) (oi:=_) (v := ?_) rfl (by kernel_rfl) (by kernel_rfl) (by kernel_rfl) (fun _ _ _ h => h) (Or.inl ⟨by rfl, ?_⟩) (by assumption) ?_
    rotate_left
    ·intro w' hSw
     (try dsimp only at hSw)
     have l0:=hSw.cell 0
     have l1:=hSw.cell 1
     have l2:=hSw.cell 2
     have l3:=hSw.cell 3
     have l4:=hSw.cell 4
     have l5:=hSw.cell 5
     have l6:=hSw.cell 6
     have l7:=hSw.cell 7
     have l8:=hSw.cell 8
     clear hSw
     go_simp
     try with_reducible rfl
    try simp only [Act.put,List.getElem_toArray,List.getElem_cons_zero,List.setIfInBounds_toArray,List.set_cons_zero,List.set_cons_succ]
    refine wpAnyH_take (i:=1) (oi:=_) (v := ?_) rfl (by kernel_rfl) (by kernel_rfl) (by kernel_rfl) (fun _ _ _ h => h) (Or.inl ⟨by rfl, ?_⟩) (by assumption) ?_
    rotate_left
    ·intro w' hSw
     (try dsimp only at hSw)
     have l0:=hSw.cell 0
     have l1:=hSw.cell 1
     have l2:=hSw.cell 2
     have l3:=hSw.cell 3
     have l4:=hSw.cell 4
     have l5:=hSw.cell 5
     have l6:=hSw.cell 6
     have l7:=hSw.cell 7
     have l8:=hSw.cell 8
     clear hSw
     go_simp
     try with_reducible rfl
    try simp only [Act.put,List.getElem_toArray,List.getElem_cons_zero,List.getElem_cons_succ,List.setIfInBounds_toArray,List.set_cons_zero,List.set_cons_succ]
    refine wpAnyH_ready (rs:=[2]) (by kernel_rfl) (by simp) ?_
    refine AllReadyH.cons rfl (fun K hK => ?_) AllReadyH.nil
    go_simp
    go_at_call 20
    refine HM0.out.mono ?_
    rintro e w5 ⟨rfl,hb5⟩
    have hr5:=HRB.out.drew.below hb5 HRB.out.lt
    have r0:=hr5.cell 0
    have r1:=hr5.cell 1
    have r2:=hr5.cell 2
    have r3:=hr5.cell 3
    have r4:=hr5.cell 4
    have r5:=hr5.cell 5
    have r6:=hr5.cell 6
    have r7:=hr5.cell 7
    have r8:=hr5.cell 8
    have q0:=hr5.free 0
    have q1:=hr5.free 1
    have q2:=hr5.free 2
    have q3:=hr5.free 3
    have q4:=hr5.free 4
    have q5:=hr5.free 5
    have q6:=hr5.free 6
    have q7:=hr5.free 7
    have q8:=hr5.free 8
    refine hK.out _ _ ?_ (fun hHeld => ?_)
    ·exact HXB.out.drew.below hb5 HXB.out.lt
    clear hK K
    try simp only [Act.put,List.getElem_toArray,List.getElem_cons_zero,List.getElem_cons_succ,List.setIfInBounds_toArray,List.set_cons_zero,List.set_cons_succ]
    refine wpAnyH_take (i:=3) (oi:=_) (v := ?_) rfl (by kernel_rfl) (by kernel_rfl) (by kernel_rfl) (fun _ _ _ h => h) (Or.inl ⟨by rfl, ?_⟩) (by assumption) ?_
    rotate_left
    ·intro w' hSw
     (try dsimp only at hSw)
     have l0:=hSw.cell 0
     have l1:=hSw.cell 1
     have l2:=hSw.cell 2
     have l3:=hSw.cell 3
     have l4:=hSw.cell 4
     have l5:=hSw.cell 5
     have l6:=hSw.cell 6
     have l7:=hSw.cell 7
     have l8:=hSw.cell 8
     clear hSw
     go_simp
     try with_reducible rfl
    try simp only [Act.put,List.getElem_toArray,List.getElem_cons_zero,List.getElem_cons_succ,List.setIfInBounds_toArray,List.set_cons_zero,List.set_cons_succ]
    refine wpAnyH_take (i:=4) (oi:=_) (v:=undef) rfl (by kernel_rfl) (by kernel_rfl) (by kernel_rfl) (fun _ _ _ h => h) (Or.inr ⟨by rfl,rfl⟩) (by assumption) ?_
    try simp only [Act.put,List.getElem_toArray,List.getElem_cons_zero,List.getElem_cons_succ,List.setIfInBounds_toArray,List.set_cons_zero,List.set_cons_succ]
    refine wpAnyH_take (i:=5) (oi:=_) (v:=undef) rfl (by kernel_rfl) (by kernel_rfl) (by kernel_rfl) (fun _ _ _ h => h) (Or.inr ⟨by rfl,rfl⟩) (by assumption) ?_
    try simp only [Act.put,List.getElem_toArray,List.getElem_cons_zero,List.getElem_cons_succ,List.setIfInBounds_toArray,List.set_cons_zero,List.set_cons_succ]
    refine wpAnyH_take (i:=6) (oi:=_) (v:=undef) rfl (by kernel_rfl) (by kernel_rfl) (by kernel_rfl) (fun _ _ _ h => h) (Or.inr ⟨by rfl,rfl⟩) (by assumption) ?_
    try simp only [Act.put,List.getElem_toArray,List.getElem_cons_zero,List.getElem_cons_succ,List.setIfInBounds_toArray,List.set_cons_zero,List.set_cons_succ]
    refine wpAnyH_take (i:=7) (oi:=_) (v:=undef) rfl (by kernel_rfl) (by kernel_rfl) (by kernel_rfl) (fun _ _ _ h => h) (Or.inr ⟨by rfl,rfl⟩) (by assumption) ?_
    try simp only [Act.put,List.getElem_toArray,List.getElem_cons_zero,List.getElem_cons_succ,List.setIfInBounds_toArray,List.set_cons_zero,List.set_cons_succ]
    refine wpAnyH_take (i:=8) (oi:=_) (v := ?_) rfl (by kernel_rfl) (by kernel_rfl) (by kernel_rfl) (fun _ _ _ h => h) (Or.inl ⟨by rfl, ?_⟩) (by assumption) ?_
    rotate_left
    ·intro w' hSw
     (try dsimp only at hSw)
     have l0:=hSw.cell 0
     have l1:=hSw.cell 1
     have l2:=hSw.cell 2
     have l3:=hSw.cell 3
     have l4:=hSw.cell 4
     have l5:=hSw.cell 5
     have l6:=hSw.cell 6
     have l7:=hSw.cell 7
     have l8:=hSw.cell 8
     clear hSw
     go_simp
     try with_reducible rfl
    try simp only [Act.put,List.getElem_toArray,List.getElem_cons_zero,List.getElem_cons_succ,List.setIfInBounds_toArray,List.set_cons_zero,List.set_cons_succ]
    refine wpAnyH_ready (rs:=[9]) (by kernel_rfl) (by simp) ?_
    refine AllReadyH.cons rfl (fun K hK => ?_) AllReadyH.nil
    go_simp
    refine hK.out _ _ ?_ (fun hHeld => ?_)
    ·exact Blk.far9 hHeld (by omega) _ _ _ _ _ _ _ _ _
    clear hK K
    try simp only [Act.put,List.getElem_toArray,List.getElem_cons_zero,List.getElem_cons_succ,List.setIfInBounds_toArray,List.set_cons_zero,List.set_cons_succ]
    refine wpAnyH_take (i:=10) (oi:=_) (v := ?_) rfl (by kernel_rfl) (by kernel_rfl) (by kernel_rfl) (fun _ _ _ h => h) (Or.inl ⟨by rfl, ?_⟩) (by assumption) ?_
    rotate_left
    ·intro w' hSw
     (try dsimp only at hSw)
     have l0:=hSw.cell 0
     have l1:=hSw.cell 1
     have l2:=hSw.cell 2
     have l3:=hSw.cell 3
     have l4:=hSw.cell 4
     have l5:=hSw.cell 5
     have l6:=hSw.cell 6
     have l7:=hSw.cell 7
     have l8:=hSw.cell 8
     clear hSw
     go_simp
     try with_reducible rfl
    try simp only [Act.put,List.getElem_toArray,List.getElem_cons_zero,List.getElem_cons_succ,List.setIfInBounds_toArray,List.set_cons_zero,List.set_cons_succ]
    refine wpAnyH_done (by kernel_rfl) ?_ _
    try go_wp2_with fail
    refine bodyPost_ret (v := .tuple #[.agg #[_,_,_,_,_,_,_,_,_], .bool false]) (results_cell_row2P rfl _ _ w.heap.size 29 _ (0,0) _ rfl (Blk.set9 hr5 rfl _ _ _ _ _ _ _ _ _) Tryz.underlying29 rfl ?_ (.bool false) rfl) rfl ⟨F J,sa,sn,sc,false,by rw [HST.out],below_set9 (HBL.out.drew.trans (hb5.mono HBL.out.size)) (Nat.le_refl _) _ _ _ _ _ _ _ _ _, ?_⟩
    ·kernel_rfl
    ·rw [HRS.out,if_neg (by simp)]
   ·generalize (F J).text = TX at *
    go_upto_region 15 with fail
    refine wp_region_held_drew (S:=(fun w' => Blk w' B 29 #[.int .u8 (k:Int), .int .i64 z0, .int .i64 z1, .int .i64 z2, .int .i64 J.par, .slice sa sn sc, .int .i64 z3, .int .i64 z4, .int .i64 z5])) (by kernel_rfl) ?_ (fun hHeld => ?_)
    ·exact HXB.out
    refine wpAnyH_take (i:=0) (oi:=_) (v := ?_) rfl (by kernel_rfl) (by kernel_rfl) (by kernel_rfl) (fun _ _ _ h => h) (Or.inl ⟨by rfl, ?_⟩) (by assumption) ?_
    rotate_left
    ·intro w' hSw
     (try dsimp only at hSw)
     have l0:=hSw.cell 0
     have l1:=hSw.cell 1
     have l2:=hSw.cell 2
     have l3:=hSw.cell 3
     have l4:=hSw.cell 4
     have l5:=hSw.cell 5
     have l6:=hSw.cell 6
     have l7:=hSw.cell 7
     have l8:=hSw.cell 8
     clear hSw
     go_simp
     try with_reducible rfl
    try simp only [Act.put,List.getElem_toArray,List.getElem_cons_zero,List.setIfInBounds_toArray,List.set_cons_zero,List.set_cons_succ]
    refine wpAnyH_take (i:=1) (oi:=_) (v := ?_) rfl (by kernel_rfl) (by kernel_rfl) (by kernel_rfl) (fun _ _ _ h => h) (Or.inl ⟨by rfl, ?_⟩) (by assumption) ?_
    rotate_left
    ·intro w' hSw
     (try dsimp only at hSw)
     have l0:=hSw.cell 0
     have l1:=hSw.cell 1
     have l2:=hSw.cell 2
     have l3:=hSw.cell 3
     have l4:=hSw.cell 4
     have l5:=hSw.cell 5
     have l6:=hSw.cell 6
     have l7:=hSw.cell 7
     have l8:=hSw.cell 8
     clear hSw
     go_simp
     try with_reducible rfl
    try simp only [Act.put,List.getElem_toArray,List.getElem_cons_zero,List.getElem_cons_succ,List.setIfInBounds_toArray,List.set_cons_zero,List.set_cons_succ]
    refine wpAnyH_ready (rs:=[2]) (by kernel_rfl) (by simp) ?_
    refine AllReadyH.cons rfl (fun K hK => ?_) AllReadyH.nil
    go_simp
    go_at_call 20
    refine HM0.out.mono ?_
    rintro e w5 ⟨rfl,hb5⟩
    have HT5:=Lib.hid (HT.out rfl w5 (fun c q => hb5.block c q.2.2) hb5.size)
    refine hK.out _ _ ?_ (fun hHeld => ?_)
    ·exact HXB.out.drew.below hb5 HXB.out.lt
    clear hK K
    try simp only [Act.put,List.getElem_toArray,List.getElem_cons_zero,List.getElem_cons_succ,List.setIfInBounds_toArray,List.set_cons_zero,List.set_cons_succ]
    refine wpAnyH_take (i:=3) (oi:=_) (v := ?_) rfl (by kernel_rfl) (by kernel_rfl) (by kernel_rfl) (fun _ _ _ h => h) (Or.inl ⟨by rfl, ?_⟩) (by assumption) ?_
    rotate_left
    ·intro w' hSw
     (try dsimp only at hSw)
     have l0:=hSw.cell 0
     have l1:=hSw.cell 1
     have l2:=hSw.cell 2
     have l3:=hSw.cell 3
     have l4:=hSw.cell 4
     have l5:=hSw.cell 5
     have l6:=hSw.cell 6
     have l7:=hSw.cell 7
     have l8:=hSw.cell 8
     clear hSw
     go_simp
     try with_reducible rfl
    try simp only [Act.put,List.getElem_toArray,List.getElem_cons_zero,List.getElem_cons_succ,List.setIfInBounds_toArray,List.set_cons_zero,List.set_cons_succ]
    refine wpAnyH_take (i:=4) (oi:=_) (v := ?_) rfl (by kernel_rfl) (by kernel_rfl) (by kernel_rfl) (fun _ _ _ h => h) (Or.inl ⟨by rfl, ?_⟩) (by assumption) ?_
    rotate_left
    ·intro w' hSw
     (try dsimp only at hSw)
     have l0:=hSw.cell 0
     have l1:=hSw.cell 1
     have l2:=hSw.cell 2
     have l3:=hSw.cell 3
     have l4:=hSw.cell 4
     have l5:=hSw.cell 5
     have l6:=hSw.cell 6
     have l7:=hSw.cell 7
     have l8:=hSw.cell 8
     clear hSw
     go_simp
     try with_reducible rfl
    try simp only [Act.put,List.getElem_toArray,List.getElem_cons_zero,List.getElem_cons_succ,List.setIfInBounds_toArray,List.set_cons_zero,List.set_cons_succ]
    refine wpAnyH_take (i:=6) (oi:=_) (v := ?_) rfl (by kernel_rfl) (by kernel_rfl) (by kernel_rfl) (fun _ _ _ h => h) (Or.inl ⟨by rfl, ?_⟩) (by assumption) ?_
    rotate_left
    ·intro w' hSw
     (try dsimp only at hSw)
     have l0:=hSw.cell 0
     have l1:=hSw.cell 1
     have l2:=hSw.cell 2
     have l3:=hSw.cell 3
     have l4:=hSw.cell 4
     have l5:=hSw.cell 5
     have l6:=hSw.cell 6
     have l7:=hSw.cell 7
     have l8:=hSw.cell 8
     clear hSw
     go_simp
     try with_reducible rfl
    try simp only [Act.put,List.getElem_toArray,List.getElem_cons_zero,List.getElem_cons_succ,List.setIfInBounds_toArray,List.set_cons_zero,List.set_cons_succ]
    refine wpAnyH_ready (rs:=[5]) (by kernel_rfl) (by simp) ?_
    refine AllReadyH.cons rfl (fun K hK => ?_) AllReadyH.nil
    go_simp
    go_at_call 62
    refine HT5.out.mono ?_
    rintro e w6 ⟨rfl,hb6⟩
    have hr5:=(HRB.out.drew.below hb5 HRB.out.lt).below hb6 (HRB.out.drew.below hb5 HRB.out.lt).lt
    have r0:=hr5.cell 0
    have r1:=hr5.cell 1
    have r2:=hr5.cell 2
    have r3:=hr5.cell 3
    have r4:=hr5.cell 4
    have r5:=hr5.cell 5
    have r6:=hr5.cell 6
    have r7:=hr5.cell 7
    have r8:=hr5.cell 8
    have q0:=hr5.free 0
    have q1:=hr5.free 1
    have q2:=hr5.free 2
    have q3:=hr5.free 3
    have q4:=hr5.free 4
    have q5:=hr5.free 5
    have q6:=hr5.free 6
    have q7:=hr5.free 7
    have q8:=hr5.free 8
    refine hK.out _ _ ?_ (fun hHeld => ?_)
    ·exact (HXB.out.drew.below hb5 HXB.out.lt).below hb6 (HXB.out.drew.below hb5 HXB.out.lt).lt
    clear hK K
    try simp only [Act.put,List.getElem_toArray,List.getElem_cons_zero,List.getElem_cons_succ,List.setIfInBounds_toArray,List.set_cons_zero,List.set_cons_succ]
    refine wpAnyH_take (i:=7) (oi:=_) (v := ?_) rfl (by kernel_rfl) (by kernel_rfl) (by kernel_rfl) (fun _ _ _ h => h) (Or.inl ⟨by rfl, ?_⟩) (by assumption) ?_
    rotate_left
    ·intro w' hSw
     (try dsimp only at hSw)
     have l0:=hSw.cell 0
     have l1:=hSw.cell 1
     have l2:=hSw.cell 2
     have l3:=hSw.cell 3
     have l4:=hSw.cell 4
     have l5:=hSw.cell 5
     have l6:=hSw.cell 6
     have l7:=hSw.cell 7
     have l8:=hSw.cell 8
     clear hSw
     go_simp
     try with_reducible rfl
    try simp only [Act.put,List.getElem_toArray,List.getElem_cons_zero,List.getElem_cons_succ,List.setIfInBounds_toArray,List.set_cons_zero,List.set_cons_succ]
    refine wpAnyH_take (i:=8) (oi:=_) (v := ?_) rfl (by kernel_rfl) (by kernel_rfl) (by kernel_rfl) (fun _ _ _ h => h) (Or.inl ⟨by rfl, ?_⟩) (by assumption) ?_
    rotate_left
    ·intro w' hSw
     (try dsimp only at hSw)
     have l0:=hSw.cell 0
     have l1:=hSw.cell 1
     have l2:=hSw.cell 2
     have l3:=hSw.cell 3
     have l4:=hSw.cell 4
     have l5:=hSw.cell 5
     have l6:=hSw.cell 6
     have l7:=hSw.cell 7
     have l8:=hSw.cell 8
     clear hSw
     go_simp
     try with_reducible rfl
    try simp only [Act.put,List.getElem_toArray,List.getElem_cons_zero,List.getElem_cons_succ,List.setIfInBounds_toArray,List.set_cons_zero,List.set_cons_succ]
    refine wpAnyH_ready (rs:=[9]) (by kernel_rfl) (by simp) ?_
    refine AllReadyH.cons rfl (fun K hK => ?_) AllReadyH.nil
    go_simp
    refine hK.out _ _ ?_ (fun hHeld => ?_)
    ·exact Blk.far9 hHeld (by omega) _ _ _ _ _ _ _ _ _
    clear hK K
    try simp only [Act.put,List.getElem_toArray,List.getElem_cons_zero,List.getElem_cons_succ,List.setIfInBounds_toArray,List.set_cons_zero,List.set_cons_succ]
    refine wpAnyH_take (i:=10) (oi:=_) (v := ?_) rfl (by kernel_rfl) (by kernel_rfl) (by kernel_rfl) (fun _ _ _ h => h) (Or.inl ⟨by rfl, ?_⟩) (by assumption) ?_
    rotate_left
    ·intro w' hSw
     (try dsimp only at hSw)
     have l0:=hSw.cell 0
     have l1:=hSw.cell 1
     have l2:=hSw.cell 2
     have l3:=hSw.cell 3
     have l4:=hSw.cell 4
     have l5:=hSw.cell 5
     have l6:=hSw.cell 6
     have l7:=hSw.cell 7
     have l8:=hSw.cell 8
     clear hSw
     go_simp
     try with_reducible rfl
    try simp only [Act.put,List.getElem_toArray,List.getElem_cons_zero,List.getElem_cons_succ,List.setIfInBounds_toArray,List.set_cons_zero,List.set_cons_succ]
    refine wpAnyH_done (by kernel_rfl) ?_ _
    try go_wp2_with fail
    refine bodyPost_ret (v := .tuple #[.agg #[_,_,_,_,_,_,_,_,_], .bool (TX.toList == s.toList)]) (results_cell_row2P rfl _ _ w.heap.size 29 _ (0,0) _ rfl (Blk.set9 hr5 rfl _ _ _ _ _ _ _ _ _) Tryz.underlying29 rfl ?_ (.bool (TX.toList == s.toList)) rfl) rfl ⟨F J,sa,sn,sc,(TX.toList == s.toList),by rw [HST.out],below_set9 ((HBL.out.drew.trans (hb5.mono HBL.out.size)).trans (hb6.mono (Nat.le_trans HBL.out.size hb5.size))) (Nat.le_refl _) _ _ _ _ _ _ _ _ _, ?_⟩
    ·kernel_rfl
    ·rw [HRS.out]
     by_cases hts:TX = s
     ·rw [if_pos ⟨trivial,hts⟩]
      refine ⟨by rw [hts]; simp,rfl,HOK.out J HJK.out,HFM.out, ?_⟩
      refine HNS.out.keep (fun c q => ⟨by omega,by have:=hb5.size; have:=hb6.size; have:=q.2.2; show c < _; rw [size_set9]; exact Nat.lt_of_lt_of_le q.2.2 (Nat.le_trans hb5.size hb6.size)⟩) (fun c q => ?_)
      rw [other_set9 (by omega)]
      exact (hb6.block c (Nat.lt_of_lt_of_le q.2.2 hb5.size)).trans (hb5.block c q.2.2)
     ·rw [if_neg (fun h => hts h.2),eql_dec,decide_eq_false hts]
end Go.Proofs.YtpkijdkoiecpiaaGreatDoor
