/-
  Parts of the proof: PW M4 PQ.
-/
import Derived.Test.YtpkijdkoiecpiaaGreatDoorZS12
import Derived.Test.YtpkijdkoiecpiaaGreatDoorZS18
import Derived.Test.YtpkijdkoiecpiaaGreatDoorZS26
import Derived.Test.YtpkijdkoiecpiaaGreatDoorZS43
import Derived.Test.YtpkijdkoiecpiaaGreatDoorZS49
namespace Go.Proofs.YtpkijdkoiecpiaaGreatDoor
open Go.RowKit
set_option linter.unusedVariables false
set_option linter.unusedSimpArgs false
def sumsB:ByteArray:={ data:=#[112,97,114,32,50,10,115,32,115,111,117,114,99,101,10,114,32,114,101,100,117,99,101,32,115,32,58,32,97,99,99,32,43,32,118,97,108,10,116,32,115,105,110,107,32,114] }
def sumsJ:Jb:=⟨2,[⟨{ data:=#[115] },1,[],Ex.zero,0⟩,⟨{ data:=#[114] },6,[0], .mk 7 0 [.mk 4 0 [], .mk 3 0 []],0⟩,⟨{ data:=#[116] },9,[1],Ex.zero,0⟩]⟩
set_option maxRecDepth 100000 in
theorem sums_parse:pScript sumsB = (sumsJ,0,0):=by kernel_rfl
theorem sums_ok:sumsJ.ok:=by
 have:=pScript_ok sumsB
 rw [sums_parse] at this
 exact this
def Sta.heavy (s:Sta):Bool:=decide (20000 < (s.bytes.size:Int)) || decide (1000 < (s.uid.size:Int))
def heavySt:List Sta → Bool
 | [] => false
 | s :: l => s.heavy || heavySt l
def Sv.heavyB (x:Sv):Bool:=heavySt x.states || (x.job.heavyB || decide (40 < (x.states.length:Int)))
theorem heavySt_small:∀ {l:List Sta},heavySt l = false → ∀ s ∈ l,s.uid.size ≤ 1000 ∧ s.bytes.size ≤ 20000
 | [],_ => fun s h => by cases h
 | a :: l,h => by
  simp only [heavySt,Bool.or_eq_false_iff,Sta.heavy,decide_eq_false_iff_not] at h
  intro s hs
  rcases List.mem_cons.1 hs with rfl | hs
  ·omega
  ·exact heavySt_small h.2 s hs
theorem Sv.heavy_small {x:Sv} (h:x.heavyB = false):x.job.heavyB = false ∧ x.states.length ≤ 40 ∧ ∀ s ∈ x.states,s.uid.size ≤ 1000 ∧ s.bytes.size ≤ 20000:=by
 simp only [Sv.heavyB,Bool.or_eq_false_iff,decide_eq_false_iff_not] at h
 exact ⟨h.2.1,by omega,heavySt_small h.1⟩
theorem putSt_small:∀ (l:List Sta),(∀ s ∈ l,s.uid.size ≤ 1000 ∧ s.bytes.size ≤ 20000) → (putSt l).1.length ≤ 21100 * l.length
 | [],_ => by simp [putSt]
 | s :: l,h => by
  have h1:=putSt_small l (fun y hy => h y (by simp [hy]))
  obtain ⟨a,b⟩:=h s (by simp)
  have h2:=(txtL_len s.uid (by omega)).1
  have h3:=(txtL_len s.bytes (by omega)).1
  unfold putSt
  split
  ·simp
  ·have h4:=(txtL_len (bstr (stL s)) (by unfold stL; rw [bstr_size,List.length_append]; omega)).1
   rw [bstr_size] at h4
   unfold stL at h4 ⊢
   rw [List.length_append] at h4
   show (frL 10 (bstr (txtL s.uid ++ txtL s.bytes)) ++ (putSt l).1).length ≤ 21100 * (l.length + 1)
   rw [List.length_append,frL_len]
   omega
theorem putSv_small {x:Sv} (hok:x.Ok) (h:x.heavyB = false):(putSv x).1.length ≤ 950000:=by
 obtain ⟨_,h2,h3⟩:=Sv.heavy_small h
 have h4:=putSt_small x.states h3
 unfold putSv
 split
 ·simp
 ·rename_i hb
  split
  ·simp
  ·have hm:x.job.may.2 = 0:=by
    apply loadE_may (l:=x.states)
    simp only [Sv.bad,Bool.or_eq_true,decide_eq_true_eq,not_or,ne_eq,Decidable.not_not] at hb
    exact hb.1
   have h5:=(Sv.head_size hok hm).2
   have h6:=(txtL_len (bstr x.head) h5).1
   show (frL 9 (bstr x.head) ++ (putSt x.states).1).length ≤ _
   rw [List.length_append,frL_len]
   omega
def firstSv:Sv:=⟨1,3,sumsJ,[]⟩
theorem first_ok:firstSv.Ok:=⟨⟨by decide,by decide⟩,⟨by decide,by decide⟩,sums_ok,by decide⟩
def badSv:Sv:=⟨0,0,sumsJ,[]⟩
theorem bad_ok:badSv.Ok:=⟨⟨by decide,by decide⟩,⟨by decide,by decide⟩,sums_ok,by decide⟩
theorem first_put:(putSv firstSv).2 = 0:=by kernel_rfl
theorem bad_put:putSv badSv = ([],2):=by kernel_rfl
theorem none_take:takeSv { data:=#[] } = (sv0,230):=by kernel_rfl
theorem new_read:(Dk.new 5000).readSv = (sv0,4):=by kernel_rfl
def dk1:Dk × Int:=(Dk.new 5000).write firstSv
theorem dk1_e:dk1.2 = 0:=by kernel_rfl
theorem dk1_read:dk1.1.readSv = (firstSv,0):=by
 have h:=write_first 5000 firstSv dk1_e
 have hk:Kck dk1.1 firstSv:=⟨h.2.len,h.2.off,h.2.loose,h.2.sure,by kernel_rfl,h.2.save⟩
 exact hk.read first_ok first_put
def Sta.sameB (a b:Sta):Bool:=decide (a.uid = b.uid) && decide (a.bytes = b.bytes)
def stasEq:List Sta → List Sta → Bool
 | [],[] => true
 | a :: l,b :: m => a.sameB b && stasEq l m
 | _,_ => false
theorem stasEq_refl:∀ l:List Sta,stasEq l l = true
 | [] => rfl
 | a :: l => by simp [stasEq,Sta.sameB,stasEq_refl l]
theorem stasEq_len:∀ {a b:List Sta},a.length ≠ b.length → stasEq a b = false
 | [],[],h => absurd rfl h
 | [],_ :: _,_ => rfl
 | _ :: _,[],_ => rfl
 | x :: l,y :: m,h => by simp only [stasEq]; rw [stasEq_len (by simpa using h),Bool.and_false]
def Sv.sameB (a b:Sv):Bool:=(a.n == b.n) && ((a.cut == b.cut) && (a.job.sameB b.job && stasEq a.states b.states))
theorem Sv.sameB_refl (x:Sv):x.sameB x = true:=by unfold Sv.sameB; simp [Jb.same_refl,stasEq_refl]
structure Env (w:World):Prop where
 h0:0 < w.heap.size
 ml:∃ m,w.cell? ⟨0,0,none⟩ = some (.int .i64 m)
theorem Env.keep {w w':World} (h:Env w) (hb:Below w.heap.size w w'):Env w' :=
 ⟨Nat.lt_of_lt_of_le h.h0 hb.size,let ⟨m,hm⟩:=h.ml; ⟨m,(hb.cell (p:=⟨0,0,none⟩) h.h0).trans hm⟩⟩
theorem Env.fr {S:Nat → Prop} {w w':World} (h:Env w) (hf:Fr S w w') (hS : ¬ S 0):Env w' :=
 ⟨Nat.lt_of_lt_of_le h.h0 hf.size,let ⟨m,hm⟩:=h.ml; ⟨m,(World.cell?_of_block (hf.block 0 h.h0 hS)).trans hm⟩⟩
theorem sumsParse_c (w:World) (h:Env w):Calls Tryz.prog 126 #[.string sumsB] w fun e w' =>
  ∃ a c,e = .returned (.tuple #[.agg #[.int .i64 2, .slice a 3 c], .int .i64 0, .int .i64 0]) ∧ NodesIn w' (fun b => w.heap.size ≤ b ∧ b < w'.heap.size) sumsJ.nodes (.slice a 3 c) ∧ Below w.heap.size w w':=by
 obtain ⟨m,hm⟩:=h.ml
 have:=sParseIn_c sumsB m w (by decide) h.h0 hm
 rw [sums_parse] at this
 refine this.mono ?_
 rintro e w' ⟨sv,rfl,hn,hb⟩
 obtain ⟨a,c,rfl,_,_⟩:=hn.slice
 exact ⟨a,c,rfl,hn,hb⟩
set_option maxRecDepth 100000 in
set_option maxHeartbeats 1000000 in
theorem made_c (w:World) (h:Env w):Calls Tryz.prog 67 #[.string sumsB] w fun e w' =>
  ∃ a c,e = .returned (.agg #[.int .i64 2, .slice a 3 c]) ∧ NodesIn w' (fun b => w.heap.size ≤ b ∧ b < w'.heap.size) sumsJ.nodes (.slice a 3 c) ∧ Below w.heap.size w w':=by
 have hA:=(Below.refl w.heap.size w).alloc (Nat.le_refl _) (.cells #[.int .i64 0, .slice none 0 0] 26)
 have hr:=Blk.new w #[.int .i64 0, .slice none 0 0] 26
 have HP:=Lib.hid (sumsParse_c _ (h.keep hA))
 clear h
 go_enter Tryz.func67,Tryz.ntmps67
 go_upto_region 1 with fail
 have hz:(w.alloc (.cells #[.int .i64 0, .slice none 0 0] 26)).heap.size = w.heap.size + 1:=by simp
 generalize World.alloc w _ = W at *
 go_upto_region 2 with (first | (go_at_call 126; refine HP.out.mono ?_; rintro e w2 ⟨a,c,rfl,hn,hb⟩) | fail)
 have hr2:=(hr.below hb hr.lt).alloc (.cells #[.int .i64 2, .slice a 3 c] 26)
 have hx2:=Blk.new w2 #[.int .i64 2, .slice a 3 c] 26
 have hB2:=(hA.trans (hb.mono hA.size)).alloc (Nat.le_trans hA.size hb.size) (.cells #[.int .i64 2, .slice a 3 c] 26)
 have hN2:=hn.keep (Q:=fun b => w.heap.size < b ∧ b < (w2.alloc (.cells #[.int .i64 2, .slice a 3 c] 26)).heap.size) (fun b k => ⟨by omega,by simp; omega⟩) (fun b k => alloc_old w2 (.cells #[.int .i64 2, .slice a 3 c] 26) b k.2)
 generalize World.alloc w2 _ = W3 at *
 have x0:=hx2.cell 0
 have x1:=hx2.cell 1
 have r0:=hr2.cell 0
 have r1:=hr2.cell 1
 have q0:=hr2.free 0
 have q1:=hr2.free 1
 have HR:=Lib.hid ((hr2.set 0 (.int .i64 2)).set 1 (.slice a 3 c))
 clear hr hr2 hx2 hA hb HP hn
 go_wp2_with fail
 refine bodyPost_ret (v := .agg #[.int .i64 2, .slice a 3 c]) (results_cell_row rfl _ _ w.heap.size 26 _ (0,0) _ rfl HR.out Tryz.underlying26 rfl ?_) rfl ⟨a,c,rfl, ?_, ?_⟩
 ·kernel_rfl
 ·exact hN2.keep (fun b k => ⟨by omega,by simpa using k.2⟩) (fun b k => (heap_setCell_other _ ⟨w.heap.size,1,none⟩ b _ (by show b ≠ w.heap.size; omega)).trans (heap_setCell_other _ ⟨w.heap.size,0,none⟩ b _ (by show b ≠ w.heap.size; omega)))
 ·exact (hB2.setCell (p:=⟨w.heap.size,0,none⟩) (Nat.le_refl _) _).setCell (p:=⟨w.heap.size,1,none⟩) (Nat.le_refl _) _
end Go.Proofs.YtpkijdkoiecpiaaGreatDoor
