/-
  Parts of the proof: P7.
-/
import Derived.Shelf.Abstract
import Derived.Shelf.RegionOpen
import Derived.OwnWalkIn
import Derived.TacticsInMore
import Derived.LoopNIn
import Derived.LoopIn
import Derived.Test.YtpkijdkoiecpiaaGreatDoorZR28
import Derived.Test.YtpkijdkoiecpiaaGreatDoorZR30
namespace Go.Proofs.YtpkijdkoiecpiaaGreatDoor
open Go.RowKit
set_option linter.unusedVariables false
set_option linter.unusedSimpArgs false
section
open Go.RowKit Go.Shelf
set_option maxHeartbeats 400000 in
theorem All_c (s:ByteArray) (w:World):Calls Tryz.prog 115 #[.string s] w fun e w' => e = .returned (.func (.func 175) #[] #[.pointer (some ⟨w.heap.size,0,none⟩)]) ∧ w' = w.alloc (.cells #[.string s] 9):=by
 have hmf:∀ (fn:Fn) (first cap:Array Value) (w:World),(Instr.makeFunc fn first cap).run Tryz.prog w = .ok (.func fn first cap) w:=fun _ _ _ _ => rfl
 go_enter Tryz.func115,Tryz.ntmps115
 go_wp2_with fail
 go_ret
 exact ⟨rfl,rfl⟩
def frmV (p:Frm):Array Value:=#[.int .u8 (p.1:Int), .string p.2]
set_option maxRecDepth 100000 in
set_option maxHeartbeats 2000000 in
theorem all_box (n bs:Nat) (s:ByteArray) (hs:s.size ≤ 140737488355328) (w:World) (hb:Blk w bs 9 #[.string s]):IterBox Fence.wide n Tryz.prog 175 #[.pointer (some ⟨bs,0,none⟩)] frmV bs (allF s) w:=by
 intro l J W hJ hbs hsz hY h0
 have hbW:Blk W bs 9 #[.string s]:=by unfold Blk; rw [hbs]; exact hb
 show CallsIn Fence.wide n Tryz.prog 175 #[.func (.yield l) #[] #[], .pointer (some ⟨bs,0,none⟩)] W _
 have HY:=Lib.hid hY
 have HJ:=Lib.hid hJ
 clear hY hJ hbs hb
 refine callsIn_of_wp Tryz.func175 rfl trivial ?_ rfl
 simp only [Tryz.ntmps175,List.size_toArray,List.length_cons,List.length_nil,Nat.reduceAdd,Nat.reduceSub,Array.replicate_succ,Array.replicate_zero,List.push_toArray,List.append_toArray,List.nil_append,List.cons_append]
 gi_wp2
 gi_loopw [3,4,5,6] (fun _ _ _ _ wr => ∃ (pre:List Frm) (u:ByteArray),allF s = pre ++ allF u ∧ u.size ≤ s.size ∧ J pre wr ∧ Blk wr bs 9 #[.string u] ∧ w.heap.size ≤ wr.heap.size)
  (fun _ _ _ _ wr => match wr.cell? ⟨bs,0,none⟩ with | some (.string u) => u.size | _ => 0)
 case atStart => exact ⟨[],s,rfl,Nat.le_refl _,h0,hbW,hsz⟩
 case round =>
  obtain ⟨pre,u,hpre,hus,hJp,hbu,hsz2⟩:=hrel
  have c0:=hbu.cell 0
  have HT:=Lib.hid (callsIn_wide (n:=n - 1).2 (FTake_c u (by omega) wr))
  have hle:=takeF_le u
  by_cases he:(takeF u).2.2.2 = 0
  ·have hst:=allF_step u he
   obtain ⟨k,hk,hku,hk5⟩:=hle
   have hk5':=hk5 he
   have hk1:=(takeF_back u he)
   generalize takeF u = t at *
   obtain ⟨kd,pl,sz,er⟩:=t
   dsimp only at he hk hst HT hk1
   subst he
   subst hk
   rw [Int.toNat_natCast] at hst
   rw [hst] at hpre
   have HPRE:=Lib.hid hpre
   have HYC:Hid (∀ w2,Below wr.heap.size wr w2 → YieldAt Fence.wide (n - 1) Tryz.prog l (frmV (kd,pl)) w2 fun e W' => e = .returned (.bool true) ∧ J (pre ++ [(kd,pl)]) W' ∧ W'.heap[bs]? = w2.heap[bs]? ∧ w2.heap.size ≤ W'.heap.size) :=
    fun w2 h2 => HY.out pre (kd,pl) w2 (HJ.out _ _ _ hJp (Fr.of_new h2)) ⟨allF (u.extract k u.size),by rw [hpre]; simp⟩
   clear hst hpre hk1 hk5
   have hk0:(0:Int) ≤ (k:Int):=by omega
   have hku2:(k:Int) ≤ (u.size:Int):=by omega
   have HBU:=Lib.hid hbu
   clear hbu c0
   have c0:=HBU.out.cell 0
   have hszu:u.size ≤ 140737488355328:=by omega
   have HC0:Hid (wr.cell? ⟨bs,0,none⟩ = some (.string u)):=c0
   gi_wp2
   refine ⟨trivial,fun h => absurd h (by simp [Fence.wide]),HT.out.mono ?_⟩
   rintro e w2 ⟨rfl,hb2⟩
   obtain ⟨fn,tmps,assign,body,hy,hR⟩:=HYC.out w2 hb2
   dsimp only [frmV] at hy
   have HR:=Lib.hid hR
   clear hR HT
   gi_wp2
   refine ⟨fun h => absurd h (by simp [Fence.wide]),HR.out.mono ?_⟩
   rintro e W3 ⟨rfl,hJ3,hb3,hs3⟩
   have hbu3:Blk W3 bs 9 #[.string u]:=by unfold Blk; rw [hb3]; exact HBU.out.below hb2 HBU.out.lt
   have c3:=hbu3.cell 0
   have f3:=hbu3.free 0
   have HB3:=Lib.hid hbu3
   have HS3:Hid (w.heap.size ≤ W3.heap.size):=Nat.le_trans hsz2 (Nat.le_trans hb2.size hs3)
   have HJ3:=Lib.hid hJ3
   clear hbu3 hb3 hs3 hb2 hJ3 c0 HBU hy HR HYC
   gi_wp2
   go_roundw
   case rel =>
    refine ⟨pre ++ [(kd,pl)],u.extract k u.size,by rw [HPRE.out]; simp,by rw [ByteArray.size_extract]; omega, ?_,HB3.out.set 0 _,by simpa [World.setCell] using HS3.out⟩
    exact HJ.out _ _ _ HJ3.out ((Fr.refl (fun x => x = bs) W3).setCell (p:=⟨bs,0,none⟩) (.inl rfl) _)
   case measure =>
    have e1:(W3.setCell ⟨bs,0,none⟩ (.string (u.extract k u.size))).cell? ⟨bs,0,none⟩ = some (.string (u.extract k u.size)):=(HB3.out.set 0 (.string (u.extract k u.size))).cell 0
    rw [HC0.out,e1]
    show (u.extract k u.size).size < u.size
    rw [ByteArray.size_extract]
    omega
  ·have d1:((takeF u).2.2.2 != 0) = true:=by simpa using he
   have HST:=Lib.hid (allF_stop u he)
   generalize takeF u = t at *
   gi_wp2
   refine ⟨trivial,fun h => absurd h (by simp [Fence.wide]),HT.out.mono ?_⟩
   rintro e w2 ⟨rfl,hb2⟩
   gi_wp2
   refine ⟨fun f h => (by cases h), ?_⟩
   gi_wp2
   refine bodyPost_ret (results_none rfl _ _ _) rfl ?_
   refine ⟨⟨_,rfl⟩, ?_⟩
   rw [hpre,HST.out,List.append_nil]
   exact HJ.out _ _ _ hJp (Fr.of_new hb2)
end
end Go.Proofs.YtpkijdkoiecpiaaGreatDoor
