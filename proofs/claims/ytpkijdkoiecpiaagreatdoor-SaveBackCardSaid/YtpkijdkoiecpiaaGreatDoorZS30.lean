/-
  Parts of the proof: C9.
-/
import Derived.Deep.CutBlock
import Derived.Outline
import Derived.Test.YtpkijdkoiecpiaaGreatDoorZS26
namespace Go.Proofs.YtpkijdkoiecpiaaGreatDoor
open Go.RowKit
set_option linter.unusedVariables false
set_option linter.unusedSimpArgs false
theorem take_start (w:World) (s:ByteArray) (t1 t2 t3 t4 t5:TypeId) (W:World) (hW:W = ((((((((w.alloc (.cells #[.string s] 9)).alloc (.cells #[.int .i64 0, .slice none 0 0] 26)).alloc (.cells #[.int .i64 0] 27)).alloc (.cells #[failsV (w.heap.size + 1 + 1)] t1)).alloc (.cells #[numberV (w.heap.size + 1 + 1) (w.heap.size) (w.heap.size + 1 + 1 + 1)] t2)).alloc (.cells #[manyV (w.heap.size + 1 + 1 + 1 + 1) (w.heap.size + 1 + 1 + 1)] t3)).alloc (.cells #[smallV (w.heap.size + 1 + 1 + 1 + 1) (w.heap.size + 1 + 1 + 1)] t4)).alloc (.cells #[takeV (w.heap.size + 1 + 1 + 1) (w.heap.size + 1 + 1 + 1 + 1 + 1 + 1) (w.heap.size + 1 + 1 + 1 + 1) (w.heap.size + 1 + 1 + 1 + 1 + 1) (w.heap.size + 1 + 1 + 1 + 1 + 1 + 1 + 1)] t5))) :
  PS W (w.heap.size + 1 + 1) (w.heap.size) ⟨s,0⟩ ∧ Ct W (w.heap.size + 1 + 1) (w.heap.size) (w.heap.size + 1 + 1 + 1) (w.heap.size + 1 + 1 + 1 + 1) (w.heap.size + 1 + 1 + 1 + 1 + 1) (w.heap.size + 1 + 1 + 1 + 1 + 1 + 1) (w.heap.size + 1 + 1 + 1 + 1 + 1 + 1 + 1) ∧ Blk W (w.heap.size + 1) 26 #[.int .i64 0, .slice none 0 0] ∧ Below w.heap.size w W ∧ W.heap.size = w.heap.size + 1 + 1 + 1 + 1 + 1 + 1 + 1 + 1:=by
 have hz:W.heap.size = w.heap.size + 1 + 1 + 1 + 1 + 1 + 1 + 1 + 1:=by rw [hW]; simp
 have f0:Below w.heap.size w ((((((((w.alloc (.cells #[.string s] 9)).alloc (.cells #[.int .i64 0, .slice none 0 0] 26)).alloc (.cells #[.int .i64 0] 27)).alloc (.cells #[failsV (w.heap.size + 1 + 1)] t1)).alloc (.cells #[numberV (w.heap.size + 1 + 1) (w.heap.size) (w.heap.size + 1 + 1 + 1)] t2)).alloc (.cells #[manyV (w.heap.size + 1 + 1 + 1 + 1) (w.heap.size + 1 + 1 + 1)] t3)).alloc (.cells #[smallV (w.heap.size + 1 + 1 + 1 + 1) (w.heap.size + 1 + 1 + 1)] t4)).alloc (.cells #[takeV (w.heap.size + 1 + 1 + 1) (w.heap.size + 1 + 1 + 1 + 1 + 1 + 1) (w.heap.size + 1 + 1 + 1 + 1) (w.heap.size + 1 + 1 + 1 + 1 + 1) (w.heap.size + 1 + 1 + 1 + 1 + 1 + 1 + 1)] t5)):=by
  refine (((((((((Below.refl _ w).alloc ?_ _).alloc ?_ _).alloc ?_ _).alloc ?_ _).alloc ?_ _).alloc ?_ _).alloc ?_ _).alloc ?_ _)
  all_goals (simp; try omega)
 have q0:Blk ((((((((w.alloc (.cells #[.string s] 9)).alloc (.cells #[.int .i64 0, .slice none 0 0] 26)).alloc (.cells #[.int .i64 0] 27)).alloc (.cells #[failsV (w.heap.size + 1 + 1)] t1)).alloc (.cells #[numberV (w.heap.size + 1 + 1) (w.heap.size) (w.heap.size + 1 + 1 + 1)] t2)).alloc (.cells #[manyV (w.heap.size + 1 + 1 + 1 + 1) (w.heap.size + 1 + 1 + 1)] t3)).alloc (.cells #[smallV (w.heap.size + 1 + 1 + 1 + 1) (w.heap.size + 1 + 1 + 1)] t4)).alloc (.cells #[takeV (w.heap.size + 1 + 1 + 1) (w.heap.size + 1 + 1 + 1 + 1 + 1 + 1) (w.heap.size + 1 + 1 + 1 + 1) (w.heap.size + 1 + 1 + 1 + 1 + 1) (w.heap.size + 1 + 1 + 1 + 1 + 1 + 1 + 1)] t5)) (w.heap.size) 9 #[.string s]:=(Blk.new_at (k:=w.heap.size) w #[.string s] 9 (by simp)) |>.alloc _ |>.alloc _ |>.alloc _ |>.alloc _ |>.alloc _ |>.alloc _ |>.alloc _
 have q1:Blk ((((((((w.alloc (.cells #[.string s] 9)).alloc (.cells #[.int .i64 0, .slice none 0 0] 26)).alloc (.cells #[.int .i64 0] 27)).alloc (.cells #[failsV (w.heap.size + 1 + 1)] t1)).alloc (.cells #[numberV (w.heap.size + 1 + 1) (w.heap.size) (w.heap.size + 1 + 1 + 1)] t2)).alloc (.cells #[manyV (w.heap.size + 1 + 1 + 1 + 1) (w.heap.size + 1 + 1 + 1)] t3)).alloc (.cells #[smallV (w.heap.size + 1 + 1 + 1 + 1) (w.heap.size + 1 + 1 + 1)] t4)).alloc (.cells #[takeV (w.heap.size + 1 + 1 + 1) (w.heap.size + 1 + 1 + 1 + 1 + 1 + 1) (w.heap.size + 1 + 1 + 1 + 1) (w.heap.size + 1 + 1 + 1 + 1 + 1) (w.heap.size + 1 + 1 + 1 + 1 + 1 + 1 + 1)] t5)) (w.heap.size + 1) 26 #[.int .i64 0, .slice none 0 0]:=(Blk.new_at (k:=w.heap.size + 1) (w.alloc (.cells #[.string s] 9)) #[.int .i64 0, .slice none 0 0] 26 (by simp)) |>.alloc _ |>.alloc _ |>.alloc _ |>.alloc _ |>.alloc _ |>.alloc _
 have q2:Blk ((((((((w.alloc (.cells #[.string s] 9)).alloc (.cells #[.int .i64 0, .slice none 0 0] 26)).alloc (.cells #[.int .i64 0] 27)).alloc (.cells #[failsV (w.heap.size + 1 + 1)] t1)).alloc (.cells #[numberV (w.heap.size + 1 + 1) (w.heap.size) (w.heap.size + 1 + 1 + 1)] t2)).alloc (.cells #[manyV (w.heap.size + 1 + 1 + 1 + 1) (w.heap.size + 1 + 1 + 1)] t3)).alloc (.cells #[smallV (w.heap.size + 1 + 1 + 1 + 1) (w.heap.size + 1 + 1 + 1)] t4)).alloc (.cells #[takeV (w.heap.size + 1 + 1 + 1) (w.heap.size + 1 + 1 + 1 + 1 + 1 + 1) (w.heap.size + 1 + 1 + 1 + 1) (w.heap.size + 1 + 1 + 1 + 1 + 1) (w.heap.size + 1 + 1 + 1 + 1 + 1 + 1 + 1)] t5)) (w.heap.size + 1 + 1) 27 #[.int .i64 0]:=(Blk.new_at (k:=w.heap.size + 1 + 1) ((w.alloc (.cells #[.string s] 9)).alloc (.cells #[.int .i64 0, .slice none 0 0] 26)) #[.int .i64 0] 27 (by simp)) |>.alloc _ |>.alloc _ |>.alloc _ |>.alloc _ |>.alloc _
 have q3:Blk ((((((((w.alloc (.cells #[.string s] 9)).alloc (.cells #[.int .i64 0, .slice none 0 0] 26)).alloc (.cells #[.int .i64 0] 27)).alloc (.cells #[failsV (w.heap.size + 1 + 1)] t1)).alloc (.cells #[numberV (w.heap.size + 1 + 1) (w.heap.size) (w.heap.size + 1 + 1 + 1)] t2)).alloc (.cells #[manyV (w.heap.size + 1 + 1 + 1 + 1) (w.heap.size + 1 + 1 + 1)] t3)).alloc (.cells #[smallV (w.heap.size + 1 + 1 + 1 + 1) (w.heap.size + 1 + 1 + 1)] t4)).alloc (.cells #[takeV (w.heap.size + 1 + 1 + 1) (w.heap.size + 1 + 1 + 1 + 1 + 1 + 1) (w.heap.size + 1 + 1 + 1 + 1) (w.heap.size + 1 + 1 + 1 + 1 + 1) (w.heap.size + 1 + 1 + 1 + 1 + 1 + 1 + 1)] t5)) (w.heap.size + 1 + 1 + 1) t1 #[failsV (w.heap.size + 1 + 1)]:=(Blk.new_at (k:=w.heap.size + 1 + 1 + 1) (((w.alloc (.cells #[.string s] 9)).alloc (.cells #[.int .i64 0, .slice none 0 0] 26)).alloc (.cells #[.int .i64 0] 27)) #[failsV (w.heap.size + 1 + 1)] t1 (by simp)) |>.alloc _ |>.alloc _ |>.alloc _ |>.alloc _
 have q4:Blk ((((((((w.alloc (.cells #[.string s] 9)).alloc (.cells #[.int .i64 0, .slice none 0 0] 26)).alloc (.cells #[.int .i64 0] 27)).alloc (.cells #[failsV (w.heap.size + 1 + 1)] t1)).alloc (.cells #[numberV (w.heap.size + 1 + 1) (w.heap.size) (w.heap.size + 1 + 1 + 1)] t2)).alloc (.cells #[manyV (w.heap.size + 1 + 1 + 1 + 1) (w.heap.size + 1 + 1 + 1)] t3)).alloc (.cells #[smallV (w.heap.size + 1 + 1 + 1 + 1) (w.heap.size + 1 + 1 + 1)] t4)).alloc (.cells #[takeV (w.heap.size + 1 + 1 + 1) (w.heap.size + 1 + 1 + 1 + 1 + 1 + 1) (w.heap.size + 1 + 1 + 1 + 1) (w.heap.size + 1 + 1 + 1 + 1 + 1) (w.heap.size + 1 + 1 + 1 + 1 + 1 + 1 + 1)] t5)) (w.heap.size + 1 + 1 + 1 + 1) t2 #[numberV (w.heap.size + 1 + 1) (w.heap.size) (w.heap.size + 1 + 1 + 1)]:=(Blk.new_at (k:=w.heap.size + 1 + 1 + 1 + 1) ((((w.alloc (.cells #[.string s] 9)).alloc (.cells #[.int .i64 0, .slice none 0 0] 26)).alloc (.cells #[.int .i64 0] 27)).alloc (.cells #[failsV (w.heap.size + 1 + 1)] t1)) #[numberV (w.heap.size + 1 + 1) (w.heap.size) (w.heap.size + 1 + 1 + 1)] t2 (by simp)) |>.alloc _ |>.alloc _ |>.alloc _
 have q5:Blk ((((((((w.alloc (.cells #[.string s] 9)).alloc (.cells #[.int .i64 0, .slice none 0 0] 26)).alloc (.cells #[.int .i64 0] 27)).alloc (.cells #[failsV (w.heap.size + 1 + 1)] t1)).alloc (.cells #[numberV (w.heap.size + 1 + 1) (w.heap.size) (w.heap.size + 1 + 1 + 1)] t2)).alloc (.cells #[manyV (w.heap.size + 1 + 1 + 1 + 1) (w.heap.size + 1 + 1 + 1)] t3)).alloc (.cells #[smallV (w.heap.size + 1 + 1 + 1 + 1) (w.heap.size + 1 + 1 + 1)] t4)).alloc (.cells #[takeV (w.heap.size + 1 + 1 + 1) (w.heap.size + 1 + 1 + 1 + 1 + 1 + 1) (w.heap.size + 1 + 1 + 1 + 1) (w.heap.size + 1 + 1 + 1 + 1 + 1) (w.heap.size + 1 + 1 + 1 + 1 + 1 + 1 + 1)] t5)) (w.heap.size + 1 + 1 + 1 + 1 + 1) t3 #[manyV (w.heap.size + 1 + 1 + 1 + 1) (w.heap.size + 1 + 1 + 1)]:=(Blk.new_at (k:=w.heap.size + 1 + 1 + 1 + 1 + 1) (((((w.alloc (.cells #[.string s] 9)).alloc (.cells #[.int .i64 0, .slice none 0 0] 26)).alloc (.cells #[.int .i64 0] 27)).alloc (.cells #[failsV (w.heap.size + 1 + 1)] t1)).alloc (.cells #[numberV (w.heap.size + 1 + 1) (w.heap.size) (w.heap.size + 1 + 1 + 1)] t2)) #[manyV (w.heap.size + 1 + 1 + 1 + 1) (w.heap.size + 1 + 1 + 1)] t3 (by simp)) |>.alloc _ |>.alloc _
 have q6:Blk ((((((((w.alloc (.cells #[.string s] 9)).alloc (.cells #[.int .i64 0, .slice none 0 0] 26)).alloc (.cells #[.int .i64 0] 27)).alloc (.cells #[failsV (w.heap.size + 1 + 1)] t1)).alloc (.cells #[numberV (w.heap.size + 1 + 1) (w.heap.size) (w.heap.size + 1 + 1 + 1)] t2)).alloc (.cells #[manyV (w.heap.size + 1 + 1 + 1 + 1) (w.heap.size + 1 + 1 + 1)] t3)).alloc (.cells #[smallV (w.heap.size + 1 + 1 + 1 + 1) (w.heap.size + 1 + 1 + 1)] t4)).alloc (.cells #[takeV (w.heap.size + 1 + 1 + 1) (w.heap.size + 1 + 1 + 1 + 1 + 1 + 1) (w.heap.size + 1 + 1 + 1 + 1) (w.heap.size + 1 + 1 + 1 + 1 + 1) (w.heap.size + 1 + 1 + 1 + 1 + 1 + 1 + 1)] t5)) (w.heap.size + 1 + 1 + 1 + 1 + 1 + 1) t4 #[smallV (w.heap.size + 1 + 1 + 1 + 1) (w.heap.size + 1 + 1 + 1)]:=(Blk.new_at (k:=w.heap.size + 1 + 1 + 1 + 1 + 1 + 1) ((((((w.alloc (.cells #[.string s] 9)).alloc (.cells #[.int .i64 0, .slice none 0 0] 26)).alloc (.cells #[.int .i64 0] 27)).alloc (.cells #[failsV (w.heap.size + 1 + 1)] t1)).alloc (.cells #[numberV (w.heap.size + 1 + 1) (w.heap.size) (w.heap.size + 1 + 1 + 1)] t2)).alloc (.cells #[manyV (w.heap.size + 1 + 1 + 1 + 1) (w.heap.size + 1 + 1 + 1)] t3)) #[smallV (w.heap.size + 1 + 1 + 1 + 1) (w.heap.size + 1 + 1 + 1)] t4 (by simp)) |>.alloc _
 have q7:Blk ((((((((w.alloc (.cells #[.string s] 9)).alloc (.cells #[.int .i64 0, .slice none 0 0] 26)).alloc (.cells #[.int .i64 0] 27)).alloc (.cells #[failsV (w.heap.size + 1 + 1)] t1)).alloc (.cells #[numberV (w.heap.size + 1 + 1) (w.heap.size) (w.heap.size + 1 + 1 + 1)] t2)).alloc (.cells #[manyV (w.heap.size + 1 + 1 + 1 + 1) (w.heap.size + 1 + 1 + 1)] t3)).alloc (.cells #[smallV (w.heap.size + 1 + 1 + 1 + 1) (w.heap.size + 1 + 1 + 1)] t4)).alloc (.cells #[takeV (w.heap.size + 1 + 1 + 1) (w.heap.size + 1 + 1 + 1 + 1 + 1 + 1) (w.heap.size + 1 + 1 + 1 + 1) (w.heap.size + 1 + 1 + 1 + 1 + 1) (w.heap.size + 1 + 1 + 1 + 1 + 1 + 1 + 1)] t5)) (w.heap.size + 1 + 1 + 1 + 1 + 1 + 1 + 1) t5 #[takeV (w.heap.size + 1 + 1 + 1) (w.heap.size + 1 + 1 + 1 + 1 + 1 + 1) (w.heap.size + 1 + 1 + 1 + 1) (w.heap.size + 1 + 1 + 1 + 1 + 1) (w.heap.size + 1 + 1 + 1 + 1 + 1 + 1 + 1)]:=(Blk.new_at (k:=w.heap.size + 1 + 1 + 1 + 1 + 1 + 1 + 1) (((((((w.alloc (.cells #[.string s] 9)).alloc (.cells #[.int .i64 0, .slice none 0 0] 26)).alloc (.cells #[.int .i64 0] 27)).alloc (.cells #[failsV (w.heap.size + 1 + 1)] t1)).alloc (.cells #[numberV (w.heap.size + 1 + 1) (w.heap.size) (w.heap.size + 1 + 1 + 1)] t2)).alloc (.cells #[manyV (w.heap.size + 1 + 1 + 1 + 1) (w.heap.size + 1 + 1 + 1)] t3)).alloc (.cells #[smallV (w.heap.size + 1 + 1 + 1 + 1) (w.heap.size + 1 + 1 + 1)] t4)) #[takeV (w.heap.size + 1 + 1 + 1) (w.heap.size + 1 + 1 + 1 + 1 + 1 + 1) (w.heap.size + 1 + 1 + 1 + 1) (w.heap.size + 1 + 1 + 1 + 1 + 1) (w.heap.size + 1 + 1 + 1 + 1 + 1 + 1 + 1)] t5 (by simp))
 subst hW
 exact ⟨⟨q2,q0⟩,⟨⟨⟨_,q3⟩,⟨_,q4⟩,by omega,by omega,by omega,by omega,by omega⟩,⟨_,q5⟩,⟨_,q6⟩,⟨_,q7⟩,by omega,by omega,by omega⟩,q1,f0,hz⟩
theorem emp_size (s:ByteArray):s.toList.isEmpty = decide (s.size = 0):=by
 rw [ByteArray.toList_eq,Lib.size_eq]
 cases s.data.toList <;> simp
structure TJ (w wx:World) (be bs bf bn bm bl bt br bj B0:Nat) (q:Rd) (par:Int) (jv:Value):Prop where
 below:Below w.heap.size w wx
 ps:PS wx be bs q
 ct:Ct wx be bs bf bn bm bl bt
 r:Blk wx br 26 #[.int .i64 0, .slice none 0 0]
 j:Blk wx bj 26 #[.int .i64 par,jv]
 big:B0 ≤ wx.heap.size
theorem TJ.step {w wx wy:World} {be bs bf bn bm bl bt br bj B0:Nat} {q q':Rd} {par:Int} {jv:Value} (h:TJ w wx be bs bf bn bm bl bt br bj B0 q par jv) (hf:Fr (FrS be bs) wx wy) (hp:PS wy be bs q')
  (h1:w.heap.size ≤ be) (h2:w.heap.size ≤ bs) (h3:br ≠ be ∧ br ≠ bs) (h4:bj ≠ be ∧ bj ≠ bs):TJ w wy be bs bf bn bm bl bt br bj B0 q' par jv :=
 ⟨h.below.trans (hf.below h.below.size (fun k hk => by rintro (q | q) <;> omega)),hp,h.ct.fr hf,h.r.fr hf (by rintro (q | q) <;> omega),h.j.fr hf (by rintro (q | q) <;> omega),Nat.le_trans h.big hf.size⟩
theorem TJ.keep {w wx wy:World} {be bs bf bn bm bl bt br bj B0:Nat} {q:Rd} {par:Int} {jv:Value} (h:TJ w wx be bs bf bn bm bl bt br bj B0 q par jv) (hf:Below wx.heap.size wx wy):TJ w wy be bs bf bn bm bl bt br bj B0 q par jv :=
 have f:Fr (fun _ => False) wx wy:=Fr.of_new hf
 ⟨h.below.trans (hf.mono h.below.size),⟨h.ps.E.fr f id,h.ps.S.fr f id⟩,⟨⟨h.ct.cl.F.fr f id,h.ct.cl.N.fr f id,h.ct.cl.ne,h.ct.cl.f1,h.ct.cl.f2,h.ct.cl.n1,h.ct.cl.n2⟩,h.ct.M.fr f id,h.ct.L.fr f id,h.ct.T.fr f id,h.ct.m1,h.ct.l1,h.ct.t1⟩,h.r.fr f id,h.j.fr f id,Nat.le_trans h.big hf.size⟩
theorem results_cell_row2P {P:Program} {fn:Func} {p q:Tmp} {ty:TypeId} (h:fn.results = #[.cell p ty, .tmp q]) (tmps:Array Value) (w:World) (g:Nat) (t:TypeId) (cs:Array Value) (fr:Nat × Nat) (d:TypeDesc)
  (hp:tmps.getD p undef = .pointer (some ⟨g,0,none⟩)) (hg:w.heap[g]? = some (.cells cs t fr))
  (hu:P.underlying ty = some d) (hd:(match d with | .struct _ | .array _ _ => true | _ => false) = true) (hi:(P.info? ty).map (·.size) = some cs.size) (u:Value) (hq:tmps.getD q undef = u) :
  (results fn tmps).run P w = .ok (.tuple #[.agg cs,u]) w:=by
 have hp':tmps[p]?.getD undef = .pointer (some ⟨g,0,none⟩):=by simpa using hp
 have hq':tmps[q]?.getD undef = u:=by simpa using hq
 simp [results,h,hp',hq',asAddr,run_loadVar_row w g t ty cs fr d hg hu hd hi]
theorem jb_set {w:World} {g:Nat} {cs:Array Value} (h:Blk w g 26 cs) (hc:cs.size = 2) (a b:Value):Blk ((w.setCell ⟨g,0,none⟩ a).setCell ⟨g,1,none⟩ b) g 26 #[a,b]:=by
 have:=(h.set 0 a).set 1 b
 obtain ⟨cs⟩:=cs
 match cs,hc with
 | [c0,c1],_ => exact this
theorem NRowP.fr {B0 be bs:Nat} {wx wy:World} {l:List Nd} {av:Value} {cs:List Value} {ivs svs:Nat → Value} (h:NRowP B0 wx l av cs ivs svs) (hf:Fr (FrS be bs) wx wy) (h1:be < B0) (h2:bs < B0):NRowP B0 wy l av cs ivs svs :=
 h.keepB hf.size fun b hb hlt => hf.block b hlt (by rintro (q | q) <;> omega)
theorem Fr.set7 {S:Nat → Prop} {a w:World} {b:Nat} (h:Fr S a w) (hb:a.heap.size ≤ b) (u0 u1 u2 u3 u4 u5 u6:Value):Fr S a (((((((w.setCell ⟨b,0,none⟩ u0).setCell ⟨b,1,none⟩ u1).setCell ⟨b,2,none⟩ u2).setCell ⟨b,3,none⟩ u3).setCell ⟨b,4,none⟩ u4).setCell ⟨b,5,none⟩ u5).setCell ⟨b,6,none⟩ u6) :=
 ((((((h.setCell (p:=⟨b,0,none⟩) (.inr hb) _).setCell (p:=⟨b,1,none⟩) (.inr hb) _).setCell (p:=⟨b,2,none⟩) (.inr hb) _).setCell (p:=⟨b,3,none⟩) (.inr hb) _).setCell (p:=⟨b,4,none⟩) (.inr hb) _).setCell (p:=⟨b,5,none⟩) (.inr hb) _).setCell (p:=⟨b,6,none⟩) (.inr hb) _
theorem Blk.far7 {w:World} {b c:Nat} {t:TypeId} {cs:Array Value} (h:Blk w c t cs) (hp:c ≠ b) (u0 u1 u2 u3 u4 u5 u6:Value):Blk (((((((w.setCell ⟨b,0,none⟩ u0).setCell ⟨b,1,none⟩ u1).setCell ⟨b,2,none⟩ u2).setCell ⟨b,3,none⟩ u3).setCell ⟨b,4,none⟩ u4).setCell ⟨b,5,none⟩ u5).setCell ⟨b,6,none⟩ u6) c t cs :=
 ((((((h.other (p:=⟨b,0,none⟩) hp _).other (p:=⟨b,1,none⟩) hp _).other (p:=⟨b,2,none⟩) hp _).other (p:=⟨b,3,none⟩) hp _).other (p:=⟨b,4,none⟩) hp _).other (p:=⟨b,5,none⟩) hp _).other (p:=⟨b,6,none⟩) hp _
theorem PS.set7 {w:World} {b be bs:Nat} {p:Rd} (h:PS w be bs p) (h1:be ≠ b) (h2:bs ≠ b) (u0 u1 u2 u3 u4 u5 u6:Value):PS (((((((w.setCell ⟨b,0,none⟩ u0).setCell ⟨b,1,none⟩ u1).setCell ⟨b,2,none⟩ u2).setCell ⟨b,3,none⟩ u3).setCell ⟨b,4,none⟩ u4).setCell ⟨b,5,none⟩ u5).setCell ⟨b,6,none⟩ u6) be bs p :=
 ⟨Blk.far7 h.E h1 _ _ _ _ _ _ _,Blk.far7 h.S h2 _ _ _ _ _ _ _⟩
theorem Blk.set7 {w:World} {g:Nat} {t:TypeId} {cs:Array Value} (h:Blk w g t cs) (hc:cs.size = 7) (a0 a1 a2 a3 a4 a5 a6:Value):Blk (((((((w.setCell ⟨g,0,none⟩ a0).setCell ⟨g,1,none⟩ a1).setCell ⟨g,2,none⟩ a2).setCell ⟨g,3,none⟩ a3).setCell ⟨g,4,none⟩ a4).setCell ⟨g,5,none⟩ a5).setCell ⟨g,6,none⟩ a6) g t #[a0,a1,a2,a3,a4,a5,a6]:=by
 have h7:=((((((h.set 0 a0).set 1 a1).set 2 a2).set 3 a3).set 4 a4).set 5 a5).set 6 a6
 have e:∀ l:List Value,l.length = 7 → (((((((l.toArray.setIfInBounds 0 a0).setIfInBounds 1 a1).setIfInBounds 2 a2).setIfInBounds 3 a3).setIfInBounds 4 a4).setIfInBounds 5 a5).setIfInBounds 6 a6) = #[a0,a1,a2,a3,a4,a5,a6]:=fun l hl => by
  match l,hl with
  | [c0,c1,c2,c3,c4,c5,c6],_ => simp only [List.setIfInBounds_toArray,List.set_cons_zero,List.set_cons_succ]
 have e2:=e cs.toList (by rw [Array.length_toList,hc])
 rw [Array.toArray_toList] at e2
 rw [e2] at h7
 exact h7
theorem Rd.text_le (p:Rd):p.text.1.size ≤ p.s.size:=by
 unfold Rd.text
 split
 ·unfold takeT
  repeat' split
  all_goals (try (show (ByteArray.empty).size ≤ _; exact Nat.zero_le _))
  dsimp only
  rw [ByteArray.size_extract]; omega
 ·exact Nat.zero_le _
theorem own_fr {w w':World} {base:Nat} {e:TypeId} {size n:Nat} {v:Value} {xs:List Value} {S:Nat → Prop} (h:w.ownsRow base e size v n xs) (hf:Fr S w w') (hS:∀ k,S k → k < base):w'.ownsRow base e size v n xs:=by
 obtain ⟨q1,q2⟩:=h
 refine ⟨q1,q2.imp id ?_⟩
 rintro ⟨g,cap,cur,hv,hb,hg,r⟩
 exact ⟨g,cap,cur,hv,hb,hf.heap_at hg (fun q => by have:=hS g q; omega),r⟩
theorem own_drew {w:World} {base:Nat} {e:TypeId} {size n:Nat} {v:Value} {xs:List Value} (h:w.ownsRow base e size v n xs):w.drew.ownsRow base e size v n xs:=h
theorem own_alloc {w:World} {base:Nat} {e:TypeId} {size n:Nat} {v:Value} {xs:List Value} (h:w.ownsRow base e size v n xs) (o:Obj):(w.alloc o).ownsRow base e size v n xs:=own_fr (S:=fun _ => False) h ((Fr.refl _ w).alloc o) (fun _ h => h.elim)
theorem own_other {w:World} {base:Nat} {e:TypeId} {size n:Nat} {v:Value} {xs:List Value} (h:w.ownsRow base e size v n xs) {p:Addr} (hp:p.block < base) (u:Value):(w.setCell p u).ownsRow base e size v n xs :=
 own_fr (S:=fun k => k = p.block) h ((Fr.refl (fun k => k = p.block) w).setCell (p:=p) (.inl rfl) u) (fun k hk => by omega)
theorem own_ge {w:World} {base:Nat} {e:TypeId} {size n:Nat} {v:Value} {xs:List Value} (h:w.ownsRow base e size v n xs):∀ q,v.ownBlock = some q → base ≤ q:=by
 intro q hq
 rcases h.2 with ⟨rfl,_⟩ | ⟨g,cap,cur,rfl,hb,hg,_⟩
 ·cases hq
 ·simp only [Value.ownBlock,Option.some.injEq] at hq
  subst hq
  exact hb
theorem own_lt {w:World} {base:Nat} {e:TypeId} {size n:Nat} {v:Value} {xs:List Value} (h:w.ownsRow base e size v n xs):∀ q,v.ownBlock = some q → q < w.heap.size:=by
 intro q hq
 rcases h.2 with ⟨rfl,_⟩ | ⟨g,cap,cur,rfl,hb,hg,_⟩
 ·cases hq
 ·simp only [Value.ownBlock,Option.some.injEq] at hq
  subst hq
  exact (Array.getElem?_eq_some_iff.1 hg).1
theorem Blk.nd_x {w:World} {g:Nat} {t:TypeId} {c0 c1 c2 c3 c4 c5 c6:Value} (h:Blk w g t #[c0,c1,c2,c3,c4,c5,c6]) (a b c:Value):Blk (((w.setCell ⟨g,3,none⟩ a).setCell ⟨g,4,none⟩ b).setCell ⟨g,5,none⟩ c) g t #[c0,c1,c2,a,b,c,c6]:=by
 have h3:=((h.set 3 a).set 4 b).set 5 c
 simp only [List.setIfInBounds_toArray,List.set_cons_zero,List.set_cons_succ] at h3
 exact h3
theorem PS.far345 {w:World} {b be bs:Nat} {p:Rd} (h:PS w be bs p) (h1:be ≠ b) (h2:bs ≠ b) (u v x:Value):PS (((w.setCell ⟨b,3,none⟩ u).setCell ⟨b,4,none⟩ v).setCell ⟨b,5,none⟩ x) be bs p :=
 ⟨((h.E.other (p:=⟨b,3,none⟩) h1 _).other (p:=⟨b,4,none⟩) h1 _).other (p:=⟨b,5,none⟩) h1 _,((h.S.other (p:=⟨b,3,none⟩) h2 _).other (p:=⟨b,4,none⟩) h2 _).other (p:=⟨b,5,none⟩) h2 _⟩
theorem info_ndC:(Tryz.prog.info? 181).map (fun i => (i.zero,i.size,i.bytes)) = some (some (.agg #[.string ⟨#[]⟩, .int .u8 0, .slice none 0 0, .int .u8 0, .int .i64 0, .slice none 0 0, .int .i64 0]),7,96):=by kernel_rfl
theorem TJ.keepB {w wx wy:World} {be bs bf bn bm bl bt br bj B0 B:Nat} {q:Rd} {par:Int} {jv:Value} (h:TJ w wx be bs bf bn bm bl bt br bj B0 q par jv) (hc:CtLt B be bs bf bn bm bl bt) (h1:be < B ∧ bs < B ∧ br < B ∧ bj < B) (h2:w.heap.size ≤ B)
  (ho:wy.os = wx.os) (ht:wy.tape = wx.tape) (hu:wy.output = wx.output) (hs:wx.heap.size ≤ wy.heap.size) (hk:∀ b,b < B → wy.heap[b]? = wx.heap[b]?):TJ w wy be bs bf bn bm bl bt br bj B0 q par jv :=
 ⟨⟨ho.trans h.below.os,ht.trans h.below.tape,hu.trans h.below.output,Nat.le_trans h.below.size hs,fun b hb => (hk b (by omega)).trans (h.below.block b hb)⟩,
  ⟨h.ps.E.same (hk _ h1.1),h.ps.S.same (hk _ h1.2.1)⟩,
  ⟨⟨h.ct.cl.F.same (hk _ hc.f),h.ct.cl.N.same (hk _ hc.n),h.ct.cl.ne,h.ct.cl.f1,h.ct.cl.f2,h.ct.cl.n1,h.ct.cl.n2⟩,h.ct.M.same (hk _ hc.m),h.ct.L.same (hk _ hc.l),h.ct.T.same (hk _ hc.t),h.ct.m1,h.ct.l1,h.ct.t1⟩,
  h.r.same (hk _ h1.2.2.1),h.j.same (hk _ h1.2.2.2),Nat.le_trans h.big hs⟩
theorem TJ.setJ {w wx:World} {be bs bf bn bm bl bt br bj B0:Nat} {q:Rd} {par:Int} {jv:Value} (h:TJ w wx be bs bf bn bm bl bt br bj B0 q par jv) (hf:CtFar bj be bs bf bn bm bl bt) (h1:be ≠ bj ∧ bs ≠ bj ∧ br ≠ bj) (h2:w.heap.size ≤ bj) (u:Value) :
  TJ w (wx.setCell ⟨bj,1,none⟩ u) be bs bf bn bm bl bt br bj B0 q par u :=
 ⟨h.below.setCell (p:=⟨bj,1,none⟩) h2 u,⟨h.ps.E.other (p:=⟨bj,1,none⟩) h1.1 u,h.ps.S.other (p:=⟨bj,1,none⟩) h1.2.1 u⟩,h.ct.far (p:=⟨bj,1,none⟩) hf u,h.r.other (p:=⟨bj,1,none⟩) h1.2.2 u,h.j.set 1 u,by simpa using h.big⟩
def TakeJPost (s:ByteArray) (w:World) (e:Ending) (w':World):Prop :=
 ∃ v,e = .returned (.tuple #[v, .int .i64 (takeJ s).2]) ∧ JbIn w' (fun b => w.heap.size ≤ b ∧ b < w'.heap.size) v (takeJ s).1 ∧ Below w.heap.size w w'
set_option maxRecDepth 100000 in
set_option maxHeartbeats 2000000 in
theorem packTake_c (s:ByteArray) (hs:s.size ≤ 140737488355328) (w:World) :
  Calls Tryz.prog 93 #[.string s] w (TakeJPost s w):=by
 unfold TakeJPost
 have HS:=Lib.hid (take_start w s)
 unfold failsV numberV manyV smallV takeV at HS
 go_enter Tryz.func93,Tryz.ntmps93
 go_upto_region 9 with fail
 generalize hWW:World.alloc _ _ = W
 obtain ⟨hP,hC,hJ,hB,hz⟩:=HS.out _ _ _ _ _ W hWW.symm
 clear HS hWW
 generalize w.heap.size + 1 + 1 + 1 + 1 + 1 + 1 + 1 = bt at *
 have hne:=hC.cl.ne
 have b0:=hC.cl.N.cell
 unfold numberV at b0
 go_wp2_with fail
 refine (pnumber_c _ _ _ hne _ hs W hP hC.cl.F).mono ?_
 rintro e w1 ⟨rfl,h1,f1⟩
 have hC1:=hC.fr f1
 clear b0
 have hs1:=Nat.le_trans (Rd.num_size ⟨s,0⟩) hs
 have HJB:Hid (Rd.jb s = (⟨(Rd.num ⟨s,0⟩).1,(takeNds ((Rd.num ⟨s,0⟩).2.many 12).1.toNat ((Rd.num ⟨s,0⟩).2.many 12).2).1⟩,(takeNds ((Rd.num ⟨s,0⟩).2.many 12).1.toNat ((Rd.num ⟨s,0⟩).2.many 12).2).2)):=rfl
 generalize Rd.num ⟨s,0⟩ = q1 at *
 go_upto_region 10 with fail
 have hjb:=Blk.new w1 #[.int .i64 q1.1, .slice none 0 0] 26
 have h1a:=h1.alloc (.cells #[.int .i64 q1.1, .slice none 0 0] 26)
 have hC1a:=hC1.alloc (.cells #[.int .i64 q1.1, .slice none 0 0] 26)
 have b1:=hC1a.M.cell
 unfold manyV at b1
 go_wp2_with fail
 refine (many_cP _ _ _ _ 12 q1.2 hs1 _ h1a hC1a.cl).mono ?_
 rintro e w2 ⟨rfl,h2,f2⟩
 have hC2:=hC1a.fr f2
 have hl1:=h1.E.lt
 have hl2:=h1.S.lt
 have hjb2:=hjb.fr f2 (by rintro (q | q) <;> omega)
 have hs2:=Nat.le_trans (Rd.many_size 12 q1.2) hs1
 have hml:=q1.2.many_le 12 (by omega)
 generalize q1.2.many 12 = q2 at *
 clear b1
 obtain ⟨m,q2⟩:=q2
 obtain ⟨mm,rfl⟩:∃ mm:Nat,m = (mm:Int):=⟨m.toNat,by have:=hml.1; dsimp only at this; omega⟩
 dsimp only at HJB h2 hs2 hml
 rw [Int.toNat_natCast] at HJB
 have hJ2:=(((hJ.fr f1 (by rintro (q | q) <;> omega)).alloc (.cells #[.int .i64 q1.1, .slice none 0 0] 26))).fr f2 (by rintro (q | q) <;> omega)
 have hB2:Below w.heap.size w w2:=⟨f2.os.trans (f1.os.trans hB.os),f2.tape.trans (f1.tape.trans hB.tape),f2.output.trans (f1.output.trans hB.output),Nat.le_trans (by have:=f2.size; have:=f1.size; have:=hB.size; simp at *; omega) (Nat.le_refl _),fun b hb => ?hb2⟩
 case hb2 =>
  rw [f2.block b (by have:=hB.size; have:=f1.size; simp; omega) (by rintro (q | q) <;> omega),alloc_old _ _ b (by have:=hB.size; have:=f1.size; omega),f1.block b (by have:=hB.size; omega) (by rintro (q | q) <;> omega),hB.block b hb]
 have hT:TJ w w2 (w.heap.size + 1 + 1) (w.heap.size) (w.heap.size + 1 + 1 + 1) (w.heap.size + 1 + 1 + 1 + 1) (w.heap.size + 1 + 1 + 1 + 1 + 1) (w.heap.size + 1 + 1 + 1 + 1 + 1 + 1) bt (w.heap.size + 1) w1.heap.size w2.heap.size q2 q1.1 (.slice none 0 0):=⟨hB2,h2,hC2,hJ2,hjb2,Nat.le_refl _⟩
 have hN:=NRowP.nil w2.heap.size w2 (fun _ => undef) (fun _ => undef)
 go_upto_block 0 with fail
 go_cut [] (fun wx => ∃ (av:Value) (cs:List Value) (ivs svs:Nat → Value),TJ w wx (w.heap.size + 1 + 1) (w.heap.size) (w.heap.size + 1 + 1 + 1) (w.heap.size + 1 + 1 + 1 + 1) (w.heap.size + 1 + 1 + 1 + 1 + 1) (w.heap.size + 1 + 1 + 1 + 1 + 1 + 1) bt (w.heap.size + 1) w1.heap.size w2.heap.size (Rd.jb s).2 q1.1 av ∧ NRowP w2.heap.size wx (Rd.jb s).1.nodes av cs ivs svs)
 case rest =>
  obtain ⟨av,cs,ivs,svs,hTc,hNc⟩:=hcut
  obtain ⟨a,cap,hav,hcap,hmx⟩:=(hNc.nodes (Nat.le_refl _)).slice
  subst hav
  have hpar:(Rd.jb s).1.par = q1.1:=by rw [HJB.out]
  have hlt2:w1.heap.size < w2.heap.size:=hjb2.lt
  clear hB2 hT hN hJ2 hjb2 hjb hs2 hml h2 hC2 f2 hC1a h1a h1 f1 hC1 hP hJ hB hC hs1 hne HJB hz
  have HE:Hid (takeJ s = (let r:=Rd.jb s; let p:=if r.2.s.size = 0 then r.2 else r.2.fail 2; let q:=if r.1.may.2 = 0 then p else p.fail 2; if q.e = 0 then (r.1,0) else (⟨0,[]⟩,q.e))):=rfl
  generalize hRR:takeJ s = R at HE
  have HRR:=Lib.hid hRR
  clear hRR
  generalize Rd.jb s = r at *
  obtain ⟨jb,p⟩:=r
  dsimp only at HE hTc hNc hcap hpar
  have d0:=hTc.ps.S.cell 0
  have f0:=hTc.ct.cl.F.cell
  unfold failsV at f0
  have HEA:Hid (∀ pA:Rd,pA = (if p.s.size = 0 then p else p.fail 2) → R = (let q:=if jb.may.2 = 0 then pA else pA.fail 2; if q.e = 0 then (jb,0) else (⟨0,[]⟩,q.e))):=fun pA h => by subst h; exact HE.out
  clear HE
  go_upto_if 60 with fail
  go_cut [] (fun wx => ∃ pA,pA = (if p.s.size = 0 then p else p.fail 2) ∧ TJ w wx (w.heap.size + 1 + 1) (w.heap.size) (w.heap.size + 1 + 1 + 1) (w.heap.size + 1 + 1 + 1 + 1) (w.heap.size + 1 + 1 + 1 + 1 + 1) (w.heap.size + 1 + 1 + 1 + 1 + 1 + 1) bt (w.heap.size + 1) w1.heap.size w2.heap.size pA q1.1 (.slice a jb.nodes.length cap) ∧ NRowP w2.heap.size wx jb.nodes (.slice a jb.nodes.length cap) cs ivs svs)
  case first =>
   have hem:=emp_size p.s
   cases hz:p.s.toList.isEmpty
   ·have hz0 : ¬ p.s.size = 0:=by rw [hz] at hem; exact of_decide_eq_false hem.symm
    clear hem
    go_wp2_with fail
    refine (pfails_c _ _ (by omega) p 2 wc hTc.ps).mono ?_
    rintro e w3 ⟨rfl,h3,f3⟩
    go_wp2_with fail
    go_meet
    exact ⟨_,(if_neg hz0).symm,hTc.step f3 h3 (by omega) (by omega) (by omega) (by omega),hNc.fr f3 (by omega) (by omega)⟩
   ·have hz0:p.s.size = 0:=by rw [hz] at hem; exact of_decide_eq_true hem.symm
    clear hem
    go_wp2_with fail
    go_meet
    exact ⟨_,(if_pos hz0).symm,hTc,hNc⟩
  case rest =>
   clear hTc hNc d0 f0
   obtain ⟨pA,hpA,hTc,hNc⟩:=hcut
   have HE:=Lib.hid (HEA.out pA hpA)
   clear hpA HEA
   have j0:=hTc.j.cell 0
   have j1:=hTc.j.cell 1
   have HJ:Hid (JbAt wc wc.heap.size (.agg #[.int .i64 q1.1, .slice a jb.nodes.length cap]) jb):=⟨_,by rw [hpar],hNc.nodes (Nat.le_refl _)⟩
   go_upto_if 69 with (go_at_call 64; refine (May_c1 jb _ _ _ HJ.out (Nat.le_refl _)).mono ?_; rintro e w3 ⟨rfl,hb3⟩)
   clear j0 j1 HJ
   have hTm:=hTc.keep hb3
   have hNm:=hNc.keepB hb3.size (fun b _ hb => hb3.block b hb)
   clear hTc hNc hb3
   have f0:=hTm.ct.cl.F.cell
   unfold failsV at f0
   have HEB:Hid (∀ pB:Rd,pB = (if jb.may.2 = 0 then pA else pA.fail 2) → R = (if pB.e = 0 then (jb,0) else (⟨0,[]⟩,pB.e))):=fun pB h => by subst h; exact HE.out
   clear HE
   go_cut [] (fun wx => ∃ pB,pB = (if jb.may.2 = 0 then pA else pA.fail 2) ∧ TJ w wx (w.heap.size + 1 + 1) (w.heap.size) (w.heap.size + 1 + 1 + 1) (w.heap.size + 1 + 1 + 1 + 1) (w.heap.size + 1 + 1 + 1 + 1 + 1) (w.heap.size + 1 + 1 + 1 + 1 + 1 + 1) bt (w.heap.size + 1) w1.heap.size w2.heap.size pB q1.1 (.slice a jb.nodes.length cap) ∧ NRowP w2.heap.size wx jb.nodes (.slice a jb.nodes.length cap) cs ivs svs)
   case first =>
    by_cases hm:jb.may.2 = 0
    ·have hmb:(jb.may.2 != 0) = false:=by simpa using hm
     go_wp2_with fail
     go_meet
     exact ⟨_,(if_pos hm).symm,hTm,hNm⟩
    ·have hmb:(jb.may.2 != 0) = true:=by simpa using hm
     go_wp2_with fail
     refine (pfails_c _ _ (by omega) pA 2 w3 hTm.ps).mono ?_
     rintro e w4 ⟨rfl,h4,f4⟩
     go_wp2_with fail
     go_meet
     exact ⟨_,(if_neg hm).symm,hTm.step f4 h4 (by omega) (by omega) (by omega) (by omega),hNm.fr f4 (by omega) (by omega)⟩
   case rest =>
    clear hTm hNm f0
    obtain ⟨pB,hpB,hTc,hNc⟩:=hcut
    have HE:=Lib.hid (HEB.out pB hpB)
    clear hpB HEB
    have e0:=hTc.ps.E.cell 0
    have hbr:=hTc.r
    have r0:=hbr.free 0
    have r1:=hbr.free 1
    have r2:=hbr.cell 0
    have r3:=hbr.cell 1
    by_cases he:pB.e = 0
    ·have heb:(pB.e != 0) = false:=by simpa using he
     have j0:=hTc.j.cell 0
     have j1:=hTc.j.cell 1
     have HR:Hid (R = (jb,0)):=by show _ = _; rw [HE.out,if_pos he]
     clear he HE
     go_wp2_with fail
     refine bodyPost_ret (v := .tuple #[.agg #[_,_],_]) (results_cell_row2P rfl _ _ (w.heap.size + 1) 26 _ (0,0) _ rfl (jb_set hbr rfl _ _) Tryz.underlying26 rfl ?_ (.int .i64 0) rfl) rfl ?_
     ·as_aux_lemma => kernel_rfl
     ·rw [HRR.out,HR.out]
      refine ⟨_,rfl,⟨_,by rw [hpar],(hNc.keepB (wy:=(wc.setCell ⟨w.heap.size + 1,0,none⟩ (.int .i64 q1.1)).setCell ⟨w.heap.size + 1,1,none⟩ (.slice a jb.nodes.length cap)) (by simp) (fun b hb _ => ?_)).nodesIn.mono (fun b hb => ⟨by have:=hb.1; omega,hb.2⟩)⟩,(hTc.below.setCell (p:=⟨w.heap.size + 1,0,none⟩) (Nat.le_succ _) _).setCell (p:=⟨w.heap.size + 1,1,none⟩) (Nat.le_succ _) _⟩
      have hn:b ≠ w.heap.size + 1:=by omega
      rw [heap_setCell_other _ ⟨w.heap.size + 1,1,none⟩ b _ hn,heap_setCell_other _ ⟨w.heap.size + 1,0,none⟩ b _ hn]
    ·have heb:(pB.e != 0) = true:=by simpa using he
     have HR:Hid (R = (⟨0,[]⟩,pB.e)):=by show _ = _; rw [HE.out,if_neg he]
     clear he HE
     go_upto_region 27 with fail
     go_region
     all_goals
      go_wp2_with fail
      refine bodyPost_ret (v := .tuple #[.agg #[_,_],_]) (results_cell_row2P rfl _ _ (w.heap.size + 1) 26 _ (0,0) _ rfl (Blk.drew (jb_set hbr rfl _ _)) Tryz.underlying26 rfl ?_ (.int .i64 pB.e) rfl) rfl ?_
      ·as_aux_lemma => kernel_rfl
      ·rw [HRR.out,HR.out]
       exact ⟨_,rfl,⟨_,rfl,none,0,rfl,Nat.le_refl _,Nat.zero_le _, .inl rfl⟩,((hTc.below.setCell (p:=⟨w.heap.size + 1,0,none⟩) (Nat.le_succ _) _).setCell (p:=⟨w.heap.size + 1,1,none⟩) (Nat.le_succ _) _).drew⟩
 go_wp2_with fail
 go_loopw [26] (fun q wx => ∃ (i:Nat) (acc:List Nd) (av:Value) (cs:List Value) (ivs svs:Nat → Value) (p:Rd),q = .int .i64 i ∧ i ≤ mm ∧ acc.length = i ∧ takeNds mm q2 = (acc ++ (takeNds (mm - i) p).1,(takeNds (mm - i) p).2) ∧ p.s.size ≤ 140737488355328 ∧
  TJ w wx (w.heap.size + 1 + 1) (w.heap.size) (w.heap.size + 1 + 1 + 1) (w.heap.size + 1 + 1 + 1 + 1) (w.heap.size + 1 + 1 + 1 + 1 + 1) (w.heap.size + 1 + 1 + 1 + 1 + 1 + 1) bt (w.heap.size + 1) w1.heap.size w2.heap.size p q1.1 av ∧ NRowP w2.heap.size wx acc av cs ivs svs) (fun q _ => mm - (intOf q).toNat)
 case atStart => exact ⟨0,[], .slice none 0 0,[],fun _ => undef,fun _ => undef,q2,rfl,Nat.zero_le _,rfl,by simp,hs2,hT,hN⟩
 case round =>
  obtain ⟨i,acc,av,cs,ivs,svs,p,rfl,hi,hal,hE,hps,hTr,hNr⟩:=hrel
  have HAL:=Lib.hid hal
  clear hal
  by_cases hlt:i < mm
  ·skip
   have hltd:decide ((i:Int) < (mm:Int)) = true:=decide_eq_true (by omega)
   generalize wr = wo at *
   have HT2:Hid (takeNds mm q2 = (acc ++ (takeNds ((mm - i - 1) + 1) p).1,(takeNds ((mm - i - 1) + 1) p).2)):=by show _ = _; rw [hE]; rw [show mm - i - 1 + 1 = mm - i by omega]
   have HND:Hid (p.nd = (⟨p.text.1,p.text.2.small.1,(reps Rd.num (p.text.2.small.2.num.2.many 12).1.toNat (p.text.2.small.2.num.2.many 12).2).1,(Rd.ex 17 (reps Rd.num (p.text.2.small.2.num.2.many 12).1.toNat (p.text.2.small.2.num.2.many 12).2).2).1,p.text.2.small.2.num.1⟩,
    (Rd.ex 17 (reps Rd.num (p.text.2.small.2.num.2.many 12).1.toNat (p.text.2.small.2.num.2.many 12).2).2).2)):=rfl
   clear hE
   have hus:=p.text_le
   have hs1:=Nat.le_trans p.text_size hps
   have HTX:=Lib.hid (fun W h1 h2 => text_cP (w.heap.size + 1 + 1) (w.heap.size) (w.heap.size + 1 + 1 + 1) (w.heap.size + 1 + 1 + 1 + 1) p hps W h1 h2)
   generalize p.text = t1 at *
   have hs2:=Nat.le_trans t1.2.small_size hs1
   have HSM:=Lib.hid (fun W h1 h2 => small_cP (w.heap.size + 1 + 1) (w.heap.size) (w.heap.size + 1 + 1 + 1) (w.heap.size + 1 + 1 + 1 + 1) t1.2 hs1 W h1 h2)
   generalize t1.2.small = t2 at *
   have hs3:=Nat.le_trans t2.2.num_size hs2
   have HNU:=Lib.hid (fun W h1 h2 => pnumber_c (w.heap.size + 1 + 1) (w.heap.size) (w.heap.size + 1 + 1 + 1) hne t2.2 hs2 W h1 h2)
   generalize t2.2.num = t3 at *
   have hs4:=Nat.le_trans (t3.2.many_size 12) hs3
   have HMN:=Lib.hid (fun W h1 h2 => many_cP (w.heap.size + 1 + 1) (w.heap.size) (w.heap.size + 1 + 1 + 1) (w.heap.size + 1 + 1 + 1 + 1) 12 t3.2 hs3 W h1 h2)
   have hml2:=t3.2.many_le 12 (by omega)
   generalize t3.2.many 12 = t4 at *
   obtain ⟨u,p1⟩:=t1
   obtain ⟨kd,p2⟩:=t2
   obtain ⟨n,p3⟩:=t3
   obtain ⟨m,p4⟩:=t4
   dsimp only at HND HTX HSM HNU HMN hs1 hs2 hs3 hs4 hus hml2
   obtain ⟨kk,rfl⟩:∃ kk:Nat,m = (kk:Int):=⟨m.toNat,by have:=hml2.1; omega⟩
   rw [Int.toNat_natCast] at HND
   have hbe:=hTr.ps.E.lt
   have hbs:=hTr.ps.S.lt
   have hbig:=hTr.big
   have hjlt:=hTr.j.lt
   have hlt2:w1.heap.size < w2.heap.size:=hjb2.lt
   have h0:=hTr.ps.drew
   have f0:Fr (FrS (w.heap.size + 1 + 1) (w.heap.size)) wo wo.drew:=(Fr.refl _ wo).drew
   have hu2:u.size ≤ maxLen:=by unfold maxLen; omega
   have hul:u.size ≤ 140737488355328:=by omega
   clear hus
   go_upto_region 12 with fail
   go_cut [12] (fun p12 wx => ∃ bx,p12 = .pointer (some ⟨bx,0,none⟩) ∧ Fr (FrS (w.heap.size + 1 + 1) (w.heap.size)) wo wx ∧ PS wx (w.heap.size + 1 + 1) (w.heap.size) p3 ∧ Blk wx bx 181 #[.string u, .int .u8 kd, .slice none 0 0, .int .u8 0, .int .i64 0, .slice none 0 0, .int .i64 n] ∧ wo.heap.size ≤ bx)
   case first =>
    have f:=f0
    have ps:=h0
    refine wp_region_held_drew (S:=(fun w' => Ct w' (w.heap.size + 1 + 1) (w.heap.size) (w.heap.size + 1 + 1 + 1) (w.heap.size + 1 + 1 + 1 + 1) (w.heap.size + 1 + 1 + 1 + 1 + 1) (w.heap.size + 1 + 1 + 1 + 1 + 1 + 1) bt)) (by kernel_rfl) ?_ (fun hHeld => ?_)
    ·exact hTr.ct.fr f0
    refine wpAnyH_take (i:=0) (oi:=_) (v := ?_) rfl (by kernel_rfl) (by kernel_rfl) (by kernel_rfl) (fun _ _ _ h => h) (Or.inl ⟨by rfl, ?_⟩) (by assumption) ?_
    rotate_left
    ·intro w' hSw
     (try dsimp only at hSw)
     have l0:=hSw.L.cell
     unfold smallV at l0
     have n0:=hSw.cl.N.cell
     unfold numberV at n0
     clear hSw
     go_simp
     try with_reducible rfl
    try simp only [Act.put,List.getElem_toArray,List.getElem_cons_zero,List.setIfInBounds_toArray,List.set_cons_zero,List.set_cons_succ]
    refine wpAnyH_take (i:=2) (oi:=_) (v := ?_) rfl (by kernel_rfl) (by kernel_rfl) (by kernel_rfl) (fun _ _ _ h => h) (Or.inl ⟨by rfl, ?_⟩) (by assumption) ?_
    rotate_left
    ·intro w' hSw
     (try dsimp only at hSw)
     have l0:=hSw.L.cell
     unfold smallV at l0
     have n0:=hSw.cl.N.cell
     unfold numberV at n0
     clear hSw
     go_simp
     try with_reducible rfl
    try simp only [Act.put,List.getElem_toArray,List.getElem_cons_zero,List.getElem_cons_succ,List.setIfInBounds_toArray,List.set_cons_zero,List.set_cons_succ]
    refine wpAnyH_take (i:=4) (oi:=_) (v := ?_) rfl (by kernel_rfl) (by kernel_rfl) (by kernel_rfl) (fun _ _ _ h => h) (Or.inl ⟨by rfl, ?_⟩) (by assumption) ?_
    rotate_left
    ·intro w' hSw
     (try dsimp only at hSw)
     have l0:=hSw.L.cell
     unfold smallV at l0
     have n0:=hSw.cl.N.cell
     unfold numberV at n0
     clear hSw
     go_simp
     try with_reducible rfl
    try simp only [Act.put,List.getElem_toArray,List.getElem_cons_zero,List.getElem_cons_succ,List.setIfInBounds_toArray,List.set_cons_zero,List.set_cons_succ]
    refine wpAnyH_ready (rs:=[1,7]) (by kernel_rfl) (by simp) ?_
    refine AllReadyH.cons rfl (fun K hK => ?_) (AllReadyH.cons rfl (fun K hK => ?_) (AllReadyH.nil))
    ·go_simp
     go_at_call 153
     refine (HTX.out _ ps (hTr.ct.fr f).cl).mono ?_
     rintro e wn ⟨rfl,psn,fn⟩
     replace f:=f.trans fn
     replace ps:=psn
     clear fn psn
     refine hK.out _ _ ?_ (fun hHeld => ?_)
     ·exact hTr.ct.fr f
     clear hK K
     try simp only [Act.put,List.getElem_toArray,List.getElem_cons_zero,List.getElem_cons_succ,List.setIfInBounds_toArray,List.set_cons_zero,List.set_cons_succ]
     refine wpAnyH_ready (rs:=[3,7]) (by kernel_rfl) (by simp) ?_
     refine AllReadyH.cons rfl (fun K hK => ?_) (AllReadyH.cons rfl (fun K hK => ?_) (AllReadyH.nil))
     ·go_simp
      go_at_call 152
      refine (HSM.out _ ps (hTr.ct.fr f).cl).mono ?_
      rintro e wn ⟨rfl,psn,fn⟩
      replace f:=f.trans fn
      replace ps:=psn
      clear fn psn
      refine hK.out _ _ ?_ (fun hHeld => ?_)
      ·exact hTr.ct.fr f
      clear hK K
      try simp only [Act.put,List.getElem_toArray,List.getElem_cons_zero,List.getElem_cons_succ,List.setIfInBounds_toArray,List.set_cons_zero,List.set_cons_succ]
      refine wpAnyH_ready (rs:=[5,7]) (by kernel_rfl) (by simp) ?_
      refine AllReadyH.cons rfl (fun K hK => ?_) (AllReadyH.cons rfl (fun K hK => ?_) (AllReadyH.nil))
      ·go_simp
       go_at_call 150
       refine (HNU.out _ ps (hTr.ct.fr f).cl.F).mono ?_
       rintro e wn ⟨rfl,psn,fn⟩
       replace f:=f.trans fn
       replace ps:=psn
       clear fn psn
       refine hK.out _ _ ?_ (fun hHeld => ?_)
       ·exact hTr.ct.fr f
       clear hK K
       try simp only [Act.put,List.getElem_toArray,List.getElem_cons_zero,List.getElem_cons_succ,List.setIfInBounds_toArray,List.set_cons_zero,List.set_cons_succ]
       refine wpAnyH_take (i:=6) (oi:=_) (v := ?_) rfl (by kernel_rfl) (by kernel_rfl) (by kernel_rfl) (fun _ _ _ h => h) (Or.inl ⟨by rfl, ?_⟩) (by assumption) ?_
       rotate_left
       ·intro w' hSw
        (try dsimp only at hSw)
        have l0:=hSw.L.cell
        unfold smallV at l0
        have n0:=hSw.cl.N.cell
        unfold numberV at n0
        clear hSw
        go_simp
        try with_reducible rfl
       try simp only [Act.put,List.getElem_toArray,List.getElem_cons_zero,List.getElem_cons_succ,List.setIfInBounds_toArray,List.set_cons_zero,List.set_cons_succ]
       refine wpAnyH_ready (rs:=[7]) (by kernel_rfl) (by simp) ?_
       refine AllReadyH.cons rfl (fun K hK => ?_) AllReadyH.nil
       go_simp
       refine hK.out _ _ ?_ (fun hHeld => ?_)
       ·exact hTr.ct.fr (f.alloc _)
       clear hK K
       try simp only [Act.put,List.getElem_toArray,List.getElem_cons_zero,List.getElem_cons_succ,List.setIfInBounds_toArray,List.set_cons_zero,List.set_cons_succ]
       refine wpAnyH_ready (rs:=[8]) (by kernel_rfl) (by simp) ?_
       refine AllReadyH.cons rfl (fun K hK => ?_) AllReadyH.nil
       go_simp
       refine hK.out _ _ ?_ (fun hHeld => ?_)
       ·exact hTr.ct.fr (f.alloc _)
       clear hK K
       try simp only [Act.put,List.getElem_toArray,List.getElem_cons_zero,List.getElem_cons_succ,List.setIfInBounds_toArray,List.set_cons_zero,List.set_cons_succ]
       refine wpAnyH_done (by kernel_rfl) ?_ _
       go_wp2_with fail
       go_meet
       exact ⟨_,rfl,f.alloc _,ps.alloc _,Blk.new _ _ _,f.size⟩
      ·go_simp
       have nb:Blk (wn.alloc (.cells #[.string ⟨#[]⟩, .int .u8 0, .slice none 0 0, .int .u8 0, .int .i64 0, .slice none 0 0, .int .i64 0] 181)) wn.heap.size 181 #[.string ⟨#[]⟩, .int .u8 0, .slice none 0 0, .int .u8 0, .int .i64 0, .slice none 0 0, .int .i64 0]:=Blk.new wn #[.string ⟨#[]⟩, .int .u8 0, .slice none 0 0, .int .u8 0, .int .i64 0, .slice none 0 0, .int .i64 0] 181
       have hbx:wo.heap.size ≤ wn.heap.size:=f.size
       have hbn : ¬ FrS (w.heap.size + 1 + 1) (w.heap.size) (wn.heap.size):=by rintro (q | q) <;> omega
       replace f:=f.alloc (.cells #[.string ⟨#[]⟩, .int .u8 0, .slice none 0 0, .int .u8 0, .int .i64 0, .slice none 0 0, .int .i64 0] 181)
       replace ps:=ps.alloc (.cells #[.string ⟨#[]⟩, .int .u8 0, .slice none 0 0, .int .u8 0, .int .i64 0, .slice none 0 0, .int .i64 0] 181)
       refine hK.out _ _ ?_ (fun hHeld => ?_)
       ·exact hTr.ct.fr f
       clear hK K
       try simp only [Act.put,List.getElem_toArray,List.getElem_cons_zero,List.getElem_cons_succ,List.setIfInBounds_toArray,List.set_cons_zero,List.set_cons_succ]
       refine wpAnyH_ready (rs:=[5]) (by kernel_rfl) (by simp) ?_
       refine AllReadyH.cons rfl (fun K hK => ?_) AllReadyH.nil
       go_simp
       go_at_call 150
       refine (HNU.out _ ps (hTr.ct.fr f).cl.F).mono ?_
       rintro e wn ⟨rfl,psn,fn⟩
       replace f:=f.trans fn
       replace ps:=psn
       replace nb:=nb.fr fn hbn
       clear fn psn
       refine hK.out _ _ ?_ (fun hHeld => ?_)
       ·exact hTr.ct.fr f
       clear hK K
       try simp only [Act.put,List.getElem_toArray,List.getElem_cons_zero,List.getElem_cons_succ,List.setIfInBounds_toArray,List.set_cons_zero,List.set_cons_succ]
       refine wpAnyH_take (i:=6) (oi:=_) (v := ?_) rfl (by kernel_rfl) (by kernel_rfl) (by kernel_rfl) (fun _ _ _ h => h) (Or.inl ⟨by rfl, ?_⟩) (by assumption) ?_
       rotate_left
       ·intro w' hSw
        (try dsimp only at hSw)
        have l0:=hSw.L.cell
        unfold smallV at l0
        have n0:=hSw.cl.N.cell
        unfold numberV at n0
        clear hSw
        go_simp
        try with_reducible rfl
       try simp only [Act.put,List.getElem_toArray,List.getElem_cons_zero,List.getElem_cons_succ,List.setIfInBounds_toArray,List.set_cons_zero,List.set_cons_succ]
       have hwb:=hbx
       have z0:=nb.free 0
       have z1:=nb.free 1
       have z2:=nb.free 2
       have z3:=nb.free 3
       have z4:=nb.free 4
       have z5:=nb.free 5
       have z6:=nb.free 6
       have c0:=nb.cell 0
       have c1:=nb.cell 1
       have c2:=nb.cell 2
       have c3:=nb.cell 3
       have c4:=nb.cell 4
       have c5:=nb.cell 5
       have c6:=nb.cell 6
       refine wpAnyH_ready (rs:=[8]) (by kernel_rfl) (by simp) ?_
       refine AllReadyH.cons rfl (fun K hK => ?_) AllReadyH.nil
       go_simp
       refine hK.out _ _ ?_ (fun hHeld => ?_)
       ·exact hTr.ct.fr (Fr.set7 f hbx _ _ _ _ _ _ _)
       clear hK K
       try simp only [Act.put,List.getElem_toArray,List.getElem_cons_zero,List.getElem_cons_succ,List.setIfInBounds_toArray,List.set_cons_zero,List.set_cons_succ]
       refine wpAnyH_done (by kernel_rfl) ?_ _
       go_wp2_with fail
       go_meet
       exact ⟨_,rfl,Fr.set7 f hbx _ _ _ _ _ _ _,PS.set7 ps (by omega) (by omega) _ _ _ _ _ _ _,Blk.set7 nb rfl _ _ _ _ _ _ _,hbx⟩
     ·go_simp
      have nb:Blk (wn.alloc (.cells #[.string ⟨#[]⟩, .int .u8 0, .slice none 0 0, .int .u8 0, .int .i64 0, .slice none 0 0, .int .i64 0] 181)) wn.heap.size 181 #[.string ⟨#[]⟩, .int .u8 0, .slice none 0 0, .int .u8 0, .int .i64 0, .slice none 0 0, .int .i64 0]:=Blk.new wn #[.string ⟨#[]⟩, .int .u8 0, .slice none 0 0, .int .u8 0, .int .i64 0, .slice none 0 0, .int .i64 0] 181
      have hbx:wo.heap.size ≤ wn.heap.size:=f.size
      have hbn : ¬ FrS (w.heap.size + 1 + 1) (w.heap.size) (wn.heap.size):=by rintro (q | q) <;> omega
      replace f:=f.alloc (.cells #[.string ⟨#[]⟩, .int .u8 0, .slice none 0 0, .int .u8 0, .int .i64 0, .slice none 0 0, .int .i64 0] 181)
      replace ps:=ps.alloc (.cells #[.string ⟨#[]⟩, .int .u8 0, .slice none 0 0, .int .u8 0, .int .i64 0, .slice none 0 0, .int .i64 0] 181)
      refine hK.out _ _ ?_ (fun hHeld => ?_)
      ·exact hTr.ct.fr f
      clear hK K
      try simp only [Act.put,List.getElem_toArray,List.getElem_cons_zero,List.getElem_cons_succ,List.setIfInBounds_toArray,List.set_cons_zero,List.set_cons_succ]
      refine wpAnyH_ready (rs:=[3]) (by kernel_rfl) (by simp) ?_
      refine AllReadyH.cons rfl (fun K hK => ?_) AllReadyH.nil
      go_simp
      go_at_call 152
      refine (HSM.out _ ps (hTr.ct.fr f).cl).mono ?_
      rintro e wn ⟨rfl,psn,fn⟩
      replace f:=f.trans fn
      replace ps:=psn
      replace nb:=nb.fr fn hbn
      clear fn psn
      refine hK.out _ _ ?_ (fun hHeld => ?_)
      ·exact hTr.ct.fr f
      clear hK K
      try simp only [Act.put,List.getElem_toArray,List.getElem_cons_zero,List.getElem_cons_succ,List.setIfInBounds_toArray,List.set_cons_zero,List.set_cons_succ]
      refine wpAnyH_ready (rs:=[5]) (by kernel_rfl) (by simp) ?_
      refine AllReadyH.cons rfl (fun K hK => ?_) AllReadyH.nil
      go_simp
      go_at_call 150
      refine (HNU.out _ ps (hTr.ct.fr f).cl.F).mono ?_
      rintro e wn ⟨rfl,psn,fn⟩
      replace f:=f.trans fn
      replace ps:=psn
      replace nb:=nb.fr fn hbn
      clear fn psn
      refine hK.out _ _ ?_ (fun hHeld => ?_)
      ·exact hTr.ct.fr f
      clear hK K
      try simp only [Act.put,List.getElem_toArray,List.getElem_cons_zero,List.getElem_cons_succ,List.setIfInBounds_toArray,List.set_cons_zero,List.set_cons_succ]
      refine wpAnyH_take (i:=6) (oi:=_) (v := ?_) rfl (by kernel_rfl) (by kernel_rfl) (by kernel_rfl) (fun _ _ _ h => h) (Or.inl ⟨by rfl, ?_⟩) (by assumption) ?_
      rotate_left
      ·intro w' hSw
       (try dsimp only at hSw)
       have l0:=hSw.L.cell
       unfold smallV at l0
       have n0:=hSw.cl.N.cell
       unfold numberV at n0
       clear hSw
       go_simp
       try with_reducible rfl
      try simp only [Act.put,List.getElem_toArray,List.getElem_cons_zero,List.getElem_cons_succ,List.setIfInBounds_toArray,List.set_cons_zero,List.set_cons_succ]
      have hwb:=hbx
      have z0:=nb.free 0
      have z1:=nb.free 1
      have z2:=nb.free 2
      have z3:=nb.free 3
      have z4:=nb.free 4
      have z5:=nb.free 5
      have z6:=nb.free 6
      have c0:=nb.cell 0
      have c1:=nb.cell 1
      have c2:=nb.cell 2
      have c3:=nb.cell 3
      have c4:=nb.cell 4
      have c5:=nb.cell 5
      have c6:=nb.cell 6
      refine wpAnyH_ready (rs:=[8]) (by kernel_rfl) (by simp) ?_
      refine AllReadyH.cons rfl (fun K hK => ?_) AllReadyH.nil
      go_simp
      refine hK.out _ _ ?_ (fun hHeld => ?_)
      ·exact hTr.ct.fr (Fr.set7 f hbx _ _ _ _ _ _ _)
      clear hK K
      try simp only [Act.put,List.getElem_toArray,List.getElem_cons_zero,List.getElem_cons_succ,List.setIfInBounds_toArray,List.set_cons_zero,List.set_cons_succ]
      refine wpAnyH_done (by kernel_rfl) ?_ _
      go_wp2_with fail
      go_meet
      exact ⟨_,rfl,Fr.set7 f hbx _ _ _ _ _ _ _,PS.set7 ps (by omega) (by omega) _ _ _ _ _ _ _,Blk.set7 nb rfl _ _ _ _ _ _ _,hbx⟩
    ·go_simp
     have nb:Blk (wo.drew.alloc (.cells #[.string ⟨#[]⟩, .int .u8 0, .slice none 0 0, .int .u8 0, .int .i64 0, .slice none 0 0, .int .i64 0] 181)) wo.heap.size 181 #[.string ⟨#[]⟩, .int .u8 0, .slice none 0 0, .int .u8 0, .int .i64 0, .slice none 0 0, .int .i64 0]:=Blk.new wo.drew #[.string ⟨#[]⟩, .int .u8 0, .slice none 0 0, .int .u8 0, .int .i64 0, .slice none 0 0, .int .i64 0] 181
     have hbx:wo.heap.size ≤ wo.heap.size:=f.size
     have hbn : ¬ FrS (w.heap.size + 1 + 1) (w.heap.size) (wo.heap.size):=by rintro (q | q) <;> omega
     replace f:=f.alloc (.cells #[.string ⟨#[]⟩, .int .u8 0, .slice none 0 0, .int .u8 0, .int .i64 0, .slice none 0 0, .int .i64 0] 181)
     replace ps:=ps.alloc (.cells #[.string ⟨#[]⟩, .int .u8 0, .slice none 0 0, .int .u8 0, .int .i64 0, .slice none 0 0, .int .i64 0] 181)
     refine hK.out _ _ ?_ (fun hHeld => ?_)
     ·exact hTr.ct.fr f
     clear hK K
     try simp only [Act.put,List.getElem_toArray,List.getElem_cons_zero,List.getElem_cons_succ,List.setIfInBounds_toArray,List.set_cons_zero,List.set_cons_succ]
     refine wpAnyH_ready (rs:=[1]) (by kernel_rfl) (by simp) ?_
     refine AllReadyH.cons rfl (fun K hK => ?_) AllReadyH.nil
     go_simp
     go_at_call 153
     refine (HTX.out _ ps (hTr.ct.fr f).cl).mono ?_
     rintro e wn ⟨rfl,psn,fn⟩
     replace f:=f.trans fn
     replace ps:=psn
     replace nb:=nb.fr fn hbn
     clear fn psn
     refine hK.out _ _ ?_ (fun hHeld => ?_)
     ·exact hTr.ct.fr f
     clear hK K
     try simp only [Act.put,List.getElem_toArray,List.getElem_cons_zero,List.getElem_cons_succ,List.setIfInBounds_toArray,List.set_cons_zero,List.set_cons_succ]
     refine wpAnyH_ready (rs:=[3]) (by kernel_rfl) (by simp) ?_
     refine AllReadyH.cons rfl (fun K hK => ?_) AllReadyH.nil
     go_simp
     go_at_call 152
     refine (HSM.out _ ps (hTr.ct.fr f).cl).mono ?_
     rintro e wn ⟨rfl,psn,fn⟩
     replace f:=f.trans fn
     replace ps:=psn
     replace nb:=nb.fr fn hbn
     clear fn psn
     refine hK.out _ _ ?_ (fun hHeld => ?_)
     ·exact hTr.ct.fr f
     clear hK K
     try simp only [Act.put,List.getElem_toArray,List.getElem_cons_zero,List.getElem_cons_succ,List.setIfInBounds_toArray,List.set_cons_zero,List.set_cons_succ]
     refine wpAnyH_ready (rs:=[5]) (by kernel_rfl) (by simp) ?_
     refine AllReadyH.cons rfl (fun K hK => ?_) AllReadyH.nil
     go_simp
     go_at_call 150
     refine (HNU.out _ ps (hTr.ct.fr f).cl.F).mono ?_
     rintro e wn ⟨rfl,psn,fn⟩
     replace f:=f.trans fn
     replace ps:=psn
     replace nb:=nb.fr fn hbn
     clear fn psn
     refine hK.out _ _ ?_ (fun hHeld => ?_)
     ·exact hTr.ct.fr f
     clear hK K
     try simp only [Act.put,List.getElem_toArray,List.getElem_cons_zero,List.getElem_cons_succ,List.setIfInBounds_toArray,List.set_cons_zero,List.set_cons_succ]
     refine wpAnyH_take (i:=6) (oi:=_) (v := ?_) rfl (by kernel_rfl) (by kernel_rfl) (by kernel_rfl) (fun _ _ _ h => h) (Or.inl ⟨by rfl, ?_⟩) (by assumption) ?_
     rotate_left
     ·intro w' hSw
      (try dsimp only at hSw)
      have l0:=hSw.L.cell
      unfold smallV at l0
      have n0:=hSw.cl.N.cell
      unfold numberV at n0
      clear hSw
      go_simp
      try with_reducible rfl
     try simp only [Act.put,List.getElem_toArray,List.getElem_cons_zero,List.getElem_cons_succ,List.setIfInBounds_toArray,List.set_cons_zero,List.set_cons_succ]
     have hwb:=hbx
     have z0:=nb.free 0
     have z1:=nb.free 1
     have z2:=nb.free 2
     have z3:=nb.free 3
     have z4:=nb.free 4
     have z5:=nb.free 5
     have z6:=nb.free 6
     have c0:=nb.cell 0
     have c1:=nb.cell 1
     have c2:=nb.cell 2
     have c3:=nb.cell 3
     have c4:=nb.cell 4
     have c5:=nb.cell 5
     have c6:=nb.cell 6
     refine wpAnyH_ready (rs:=[8]) (by kernel_rfl) (by simp) ?_
     refine AllReadyH.cons rfl (fun K hK => ?_) AllReadyH.nil
     go_simp
     refine hK.out _ _ ?_ (fun hHeld => ?_)
     ·exact hTr.ct.fr (Fr.set7 f hbx _ _ _ _ _ _ _)
     clear hK K
     try simp only [Act.put,List.getElem_toArray,List.getElem_cons_zero,List.getElem_cons_succ,List.setIfInBounds_toArray,List.set_cons_zero,List.set_cons_succ]
     refine wpAnyH_done (by kernel_rfl) ?_ _
     go_wp2_with fail
     go_meet
     exact ⟨_,rfl,Fr.set7 f hbx _ _ _ _ _ _ _,PS.set7 ps (by omega) (by omega) _ _ _ _ _ _ _,Blk.set7 nb rfl _ _ _ _ _ _ _,hbx⟩
   case rest =>
    clear f0 h0 HTX HSM HNU
    obtain ⟨bx,rfl,f,ps,nb,hbx⟩:=hcut
    have hC:=hTr.ct.fr f
    have b0:=hC.M.cell
    unfold manyV at b0
    go_wp2_with fail
    refine (HMN.out _ ps hC.cl).mono ?_
    rintro e w6 ⟨rfl,h6,f6⟩
    have hbn : ¬ FrS (w.heap.size + 1 + 1) (w.heap.size) bx:=by rintro (q | q) <;> omega
    replace nb:=nb.fr f6 hbn
    replace f:=f.trans f6
    clear b0 ps hC f6 HMN
    have hB1:bx < w6.heap.size:=nb.lt
    have own0:w6.ownsRow w6.heap.size 3 1 (.slice none 0 0) 0 ((reps Rd.num 0 p4).1.map (Value.int .i64)):=⟨rfl, .inl ⟨rfl,rfl⟩⟩
    obtain ⟨ji,ki,kz0,kz1,kz2⟩:=info_parts info_intJ
    generalize hgB:w6.heap.size = B1 at hB1 own0
    have hB2:B1 ≤ w6.heap.size:=Nat.le_of_eq hgB.symm
    clear hgB
    go_wp2_with fail
    go_loopw [37] (fun q wx => ∃ (j:Nat) (iv:Value),q = .int .i64 j ∧ j ≤ kk ∧ Fr (FrS (w.heap.size + 1 + 1) (w.heap.size)) wo wx ∧ PS wx (w.heap.size + 1 + 1) (w.heap.size) (reps Rd.num j p4).2 ∧ Blk wx bx 181 #[.string u, .int .u8 kd,iv, .int .u8 0, .int .i64 0, .slice none 0 0, .int .i64 n] ∧ wx.ownsRow B1 3 1 iv j ((reps Rd.num j p4).1.map (Value.int .i64)) ∧ B1 ≤ wx.heap.size) (fun q _ => kk - (intOf q).toNat)
    case atStart => exact ⟨0, .slice none 0 0,rfl,Nat.zero_le _,f,h6,nb,own0,hB2⟩
    case round =>
     obtain ⟨j,iv,rfl,hj,f7,h7,nb7,own7,hB7⟩:=hrel
     clear f h6 nb own0 hB2
     have HSN:=Lib.hid (reps_snoc Rd.num j p4)
     have hsr:=Nat.le_trans (reps_size Rd.num Rd.num_size j p4) hs4
     by_cases hlj:j < kk
     ·have hljd:decide ((j:Int) < (kk:Int)) = true:=decide_eq_true (by omega)
      generalize reps Rd.num j p4 = r at *
      have h7d:=h7.drew
      have f7d:=f7.drew
      have nb7d:=nb7.drew
      have hC7:=hTr.ct.fr f7d
      have hx7:=nb7d.cell 2
      go_upto_region 15 with fail
      refine wp_region_held_drew (S:=(fun w' => Bx w' (w.heap.size + 1 + 1 + 1 + 1) (numberV (w.heap.size + 1 + 1) (w.heap.size) (w.heap.size + 1 + 1 + 1)))) (by kernel_rfl) ?_ (fun hHeld => ?_)
      ·exact hC7.cl.N
      refine wpAnyH_take (i:=0) (oi:=_) (v := ?_) rfl (by kernel_rfl) (by kernel_rfl) (by kernel_rfl) (fun _ _ _ h => h) (Or.inl ⟨by rfl, ?_⟩) (by assumption) ?_
      rotate_left
      ·intro w' hSw
       (try dsimp only at hSw)
       have l0:=hSw.cell
       unfold numberV at l0
       clear hSw
       go_simp
       try with_reducible rfl
      try simp only [Act.put,List.getElem_toArray,List.getElem_cons_zero,List.setIfInBounds_toArray,List.set_cons_zero,List.set_cons_succ]
      refine wpAnyH_take (i:=2) (oi:=_) (v := ?_) rfl (by kernel_rfl) (by kernel_rfl) (by kernel_rfl) (fun _ _ _ h => h) (Or.inl ⟨by rfl, ?_⟩) (by assumption) ?_
      rotate_left
      ·intro w' hSw
       (try dsimp only at hSw)
       have l0:=hSw.cell
       unfold numberV at l0
       clear hSw
       go_simp
       try with_reducible rfl
      try simp only [Act.put,List.getElem_toArray,List.getElem_cons_zero,List.getElem_cons_succ,List.setIfInBounds_toArray,List.set_cons_zero,List.set_cons_succ]
      refine wpAnyH_ready (rs:=[1,3]) (by kernel_rfl) (by simp) ?_
      refine AllReadyH.cons rfl (fun K hK => ?_) (AllReadyH.cons rfl (fun K hK => ?_) (AllReadyH.nil))
      ·go_simp
       refine hK.out _ _ ?_ (fun hHeld => ?_)
       ·exact hC7.cl.N
       clear hK K
       try simp only [Act.put,List.getElem_toArray,List.getElem_cons_zero,List.getElem_cons_succ,List.setIfInBounds_toArray,List.set_cons_zero,List.set_cons_succ]
       refine wpAnyH_ready (rs:=[3]) (by kernel_rfl) (by simp) ?_
       refine AllReadyH.cons rfl (fun K hK => ?_) AllReadyH.nil
       go_simp
       go_at_call 150
       refine (pnumber_c (w.heap.size + 1 + 1) (w.heap.size) (w.heap.size + 1 + 1 + 1) hne r.2 hsr wr.drew h7d hC7.cl.F).mono ?_
       rintro e w8 ⟨rfl,h8,f8⟩
       have nb8:=nb7d.fr f8 hbn
       have own8:=own_fr (own_drew own7) f8 (by rintro k (q | q) <;> omega)
       have hsz8:wr.heap.size ≤ w8.heap.size:=f8.size
       replace f8:=f7d.trans f8
       have hir8:=r.2.num_ir
       generalize r.2.num = y at *
       have hB8:B1 ≤ w8.heap.size:=Nat.le_trans hB7 hsz8
       have hx8:=nb8.cell 2
       refine hK.out _ _ ?_ (fun hHeld => ?_)
       ·exact (hTr.ct.fr f8).cl.N
       clear hK K
       try simp only [Act.put,List.getElem_toArray,List.getElem_cons_zero,List.getElem_cons_succ,List.setIfInBounds_toArray,List.set_cons_zero,List.set_cons_succ]
       refine wpAnyH_ready (rs:=[4]) (by kernel_rfl) (by simp) ?_
       refine AllReadyH.cons rfl (fun K hK => ?_) AllReadyH.nil
       go_simp
       have ha:=h8.alloc (.cells #[.int .i64 y.1] 3)
       have nba:=nb8.alloc (.cells #[.int .i64 y.1] 3)
       have fa:=f8.alloc (.cells #[.int .i64 y.1] 3)
       have owna:=own_alloc own8 (.cells #[.int .i64 y.1] 3)
       have hxa:=nba.cell 2
       refine hK.out _ _ ?_ (fun hHeld => ?_)
       ·exact (hTr.ct.fr fa).cl.N
       clear hK K
       try simp only [Act.put,List.getElem_toArray,List.getElem_cons_zero,List.getElem_cons_succ,List.setIfInBounds_toArray,List.set_cons_zero,List.set_cons_succ]
       refine wpAnyH_ready (rs:=[5]) (by kernel_rfl) (by simp) ?_
       refine AllReadyH.cons rfl (fun K hK => ?_) AllReadyH.nil
       have hszX:(w8.alloc (.cells #[.int .i64 y.1] 3)).heap.size = w8.heap.size + 1:=by simp
       refine step_append_lies _ (by rfl) _ _ _ (by rfl) B1 3 ji (.int .i64 0) 1 8 Tryz.underlying176 ki kz0 kz1 kz2 rfl (by decide) iv j (r.1.map (Value.int .i64)) (by rfl) owna ⟨w8.heap.size,0,none⟩ 1 1 (#[Value.int .i64 y.1]).toList (by rfl) (by rfl) (World.news_of_block (heap_alloc_new w8 _)) (by simp [Value.oneCell']) (by omega) (by unfold maxLen; omega) (by omega) (by omega) _ rfl ?_
       intro g capg w9 own9 hg9 hat9 hlt9
       have hgn:∀ q,iv.ownBlock = some q → B1 ≤ q:=own_ge own7
       have h9:PS w9 (w.heap.size + 1 + 1) (w.heap.size) y.2:=⟨ha.E.grown hg9 (fun e => by have:=hgn _ e.symm; omega),ha.S.grown hg9 (fun e => by have:=hgn _ e.symm; omega)⟩
       have nb9:=nba.grown hg9 (fun e => by have:=hgn _ e.symm; omega)
       have f9:=fa.grown hg9 (fun q e => .inr (by have:=hgn _ e; omega))
       have hB9:B1 ≤ w9.heap.size:=by have:=hg9.size; omega
       have hx9:=nb9.cell 2
       have hz9:=nb9.free 2
       refine hK.out _ _ ?_ (fun hHeld => ?_)
       ·exact (hTr.ct.fr f9).cl.N
       clear hK K
       try simp only [Act.put,List.getElem_toArray,List.getElem_cons_zero,List.getElem_cons_succ,List.setIfInBounds_toArray,List.set_cons_zero,List.set_cons_succ]
       refine wpAnyH_take (i:=6) (oi:=_) (v := ?_) rfl (by kernel_rfl) (by kernel_rfl) (by kernel_rfl) (fun _ _ _ h => h) (Or.inl ⟨by rfl, ?_⟩) (by assumption) ?_
       rotate_left
       ·intro w' hSw
        (try dsimp only at hSw)
        have l0:=hSw.cell
        unfold numberV at l0
        clear hSw
        go_simp
        try with_reducible rfl
       try simp only [Act.put,List.getElem_toArray,List.getElem_cons_zero,List.getElem_cons_succ,List.setIfInBounds_toArray,List.set_cons_zero,List.set_cons_succ]
       refine wpAnyH_ready (rs:=[7]) (by kernel_rfl) (by simp) ?_
       refine AllReadyH.cons rfl (fun K hK => ?_) AllReadyH.nil
       go_simp
       have hgb:bx ≠ g:=fun e => by rcases hat9 with h | h; (have:=hgn _ h; omega); (rw [hszX] at h; omega)
       have nb10:=nb9.set 2 (.slice (some ⟨g,0,none⟩) (j + 1) capg)
       have f10:=f9.setCell (p:=⟨bx,2,none⟩) (.inr hbx) (.slice (some ⟨g,0,none⟩) (j + 1) capg)
       have h10:PS (w9.setCell ⟨bx,2,none⟩ (.slice (some ⟨g,0,none⟩) (j + 1) capg)) (w.heap.size + 1 + 1) (w.heap.size) y.2:=⟨h9.E.other (p:=⟨bx,2,none⟩) (by show _ ≠ bx; omega) _,h9.S.other (p:=⟨bx,2,none⟩) (by show _ ≠ bx; omega) _⟩
       have own10:=own_other own9 (p:=⟨bx,2,none⟩) hB1 (.slice (some ⟨g,0,none⟩) (j + 1) capg)
       refine hK.out _ _ ?_ (fun hHeld => ?_)
       ·exact (hTr.ct.fr f10).cl.N
       clear hK K
       try simp only [Act.put,List.getElem_toArray,List.getElem_cons_zero,List.getElem_cons_succ,List.setIfInBounds_toArray,List.set_cons_zero,List.set_cons_succ]
       refine wpAnyH_done (by kernel_rfl) ?_ _
       go_wp2_with fail
       go_roundw
       case measure => simp only [intOf]; omega
       case rel =>
        refine ⟨j + 1,_,rfl,by omega,f10, ?_,nb10, ?_,by simpa using hB9⟩
        ·rw [HSN.out]; exact h10
        ·rw [HSN.out,List.map_append]; exact own10
      ·go_simp
       go_at_call 150
       refine (pnumber_c (w.heap.size + 1 + 1) (w.heap.size) (w.heap.size + 1 + 1 + 1) hne r.2 hsr wr.drew h7d hC7.cl.F).mono ?_
       rintro e w8 ⟨rfl,h8,f8⟩
       have nb8:=nb7d.fr f8 hbn
       have own8:=own_fr (own_drew own7) f8 (by rintro k (q | q) <;> omega)
       have hsz8:wr.heap.size ≤ w8.heap.size:=f8.size
       replace f8:=f7d.trans f8
       have hir8:=r.2.num_ir
       generalize r.2.num = y at *
       have hB8:B1 ≤ w8.heap.size:=Nat.le_trans hB7 hsz8
       have hx8:=nb8.cell 2
       refine hK.out _ _ ?_ (fun hHeld => ?_)
       ·exact (hTr.ct.fr f8).cl.N
       clear hK K
       try simp only [Act.put,List.getElem_toArray,List.getElem_cons_zero,List.getElem_cons_succ,List.setIfInBounds_toArray,List.set_cons_zero,List.set_cons_succ]
       refine wpAnyH_ready (rs:=[1,4]) (by kernel_rfl) (by simp) ?_
       refine AllReadyH.cons rfl (fun K hK => ?_) (AllReadyH.cons rfl (fun K hK => ?_) (AllReadyH.nil))
       ·go_simp
        refine hK.out _ _ ?_ (fun hHeld => ?_)
        ·exact (hTr.ct.fr f8).cl.N
        clear hK K
        try simp only [Act.put,List.getElem_toArray,List.getElem_cons_zero,List.getElem_cons_succ,List.setIfInBounds_toArray,List.set_cons_zero,List.set_cons_succ]
        refine wpAnyH_ready (rs:=[4]) (by kernel_rfl) (by simp) ?_
        refine AllReadyH.cons rfl (fun K hK => ?_) AllReadyH.nil
        go_simp
        have ha:=h8.alloc (.cells #[.int .i64 y.1] 3)
        have nba:=nb8.alloc (.cells #[.int .i64 y.1] 3)
        have fa:=f8.alloc (.cells #[.int .i64 y.1] 3)
        have owna:=own_alloc own8 (.cells #[.int .i64 y.1] 3)
        have hxa:=nba.cell 2
        refine hK.out _ _ ?_ (fun hHeld => ?_)
        ·exact (hTr.ct.fr fa).cl.N
        clear hK K
        try simp only [Act.put,List.getElem_toArray,List.getElem_cons_zero,List.getElem_cons_succ,List.setIfInBounds_toArray,List.set_cons_zero,List.set_cons_succ]
        refine wpAnyH_ready (rs:=[5]) (by kernel_rfl) (by simp) ?_
        refine AllReadyH.cons rfl (fun K hK => ?_) AllReadyH.nil
        have hszX:(w8.alloc (.cells #[.int .i64 y.1] 3)).heap.size = w8.heap.size + 1:=by simp
        refine step_append_lies _ (by rfl) _ _ _ (by rfl) B1 3 ji (.int .i64 0) 1 8 Tryz.underlying176 ki kz0 kz1 kz2 rfl (by decide) iv j (r.1.map (Value.int .i64)) (by rfl) owna ⟨w8.heap.size,0,none⟩ 1 1 (#[Value.int .i64 y.1]).toList (by rfl) (by rfl) (World.news_of_block (heap_alloc_new w8 _)) (by simp [Value.oneCell']) (by omega) (by unfold maxLen; omega) (by omega) (by omega) _ rfl ?_
        intro g capg w9 own9 hg9 hat9 hlt9
        have hgn:∀ q,iv.ownBlock = some q → B1 ≤ q:=own_ge own7
        have h9:PS w9 (w.heap.size + 1 + 1) (w.heap.size) y.2:=⟨ha.E.grown hg9 (fun e => by have:=hgn _ e.symm; omega),ha.S.grown hg9 (fun e => by have:=hgn _ e.symm; omega)⟩
        have nb9:=nba.grown hg9 (fun e => by have:=hgn _ e.symm; omega)
        have f9:=fa.grown hg9 (fun q e => .inr (by have:=hgn _ e; omega))
        have hB9:B1 ≤ w9.heap.size:=by have:=hg9.size; omega
        have hx9:=nb9.cell 2
        have hz9:=nb9.free 2
        refine hK.out _ _ ?_ (fun hHeld => ?_)
        ·exact (hTr.ct.fr f9).cl.N
        clear hK K
        try simp only [Act.put,List.getElem_toArray,List.getElem_cons_zero,List.getElem_cons_succ,List.setIfInBounds_toArray,List.set_cons_zero,List.set_cons_succ]
        refine wpAnyH_take (i:=6) (oi:=_) (v := ?_) rfl (by kernel_rfl) (by kernel_rfl) (by kernel_rfl) (fun _ _ _ h => h) (Or.inl ⟨by rfl, ?_⟩) (by assumption) ?_
        rotate_left
        ·intro w' hSw
         (try dsimp only at hSw)
         have l0:=hSw.cell
         unfold numberV at l0
         clear hSw
         go_simp
         try with_reducible rfl
        try simp only [Act.put,List.getElem_toArray,List.getElem_cons_zero,List.getElem_cons_succ,List.setIfInBounds_toArray,List.set_cons_zero,List.set_cons_succ]
        refine wpAnyH_ready (rs:=[7]) (by kernel_rfl) (by simp) ?_
        refine AllReadyH.cons rfl (fun K hK => ?_) AllReadyH.nil
        go_simp
        have hgb:bx ≠ g:=fun e => by rcases hat9 with h | h; (have:=hgn _ h; omega); (rw [hszX] at h; omega)
        have nb10:=nb9.set 2 (.slice (some ⟨g,0,none⟩) (j + 1) capg)
        have f10:=f9.setCell (p:=⟨bx,2,none⟩) (.inr hbx) (.slice (some ⟨g,0,none⟩) (j + 1) capg)
        have h10:PS (w9.setCell ⟨bx,2,none⟩ (.slice (some ⟨g,0,none⟩) (j + 1) capg)) (w.heap.size + 1 + 1) (w.heap.size) y.2:=⟨h9.E.other (p:=⟨bx,2,none⟩) (by show _ ≠ bx; omega) _,h9.S.other (p:=⟨bx,2,none⟩) (by show _ ≠ bx; omega) _⟩
        have own10:=own_other own9 (p:=⟨bx,2,none⟩) hB1 (.slice (some ⟨g,0,none⟩) (j + 1) capg)
        refine hK.out _ _ ?_ (fun hHeld => ?_)
        ·exact (hTr.ct.fr f10).cl.N
        clear hK K
        try simp only [Act.put,List.getElem_toArray,List.getElem_cons_zero,List.getElem_cons_succ,List.setIfInBounds_toArray,List.set_cons_zero,List.set_cons_succ]
        refine wpAnyH_done (by kernel_rfl) ?_ _
        go_wp2_with fail
        go_roundw
        case measure => simp only [intOf]; omega
        case rel =>
         refine ⟨j + 1,_,rfl,by omega,f10, ?_,nb10, ?_,by simpa using hB9⟩
         ·rw [HSN.out]; exact h10
         ·rw [HSN.out,List.map_append]; exact own10
       ·go_simp
        have ha:=h8.alloc (.cells #[.int .i64 y.1] 3)
        have nba:=nb8.alloc (.cells #[.int .i64 y.1] 3)
        have fa:=f8.alloc (.cells #[.int .i64 y.1] 3)
        have owna:=own_alloc own8 (.cells #[.int .i64 y.1] 3)
        have hxa:=nba.cell 2
        refine hK.out _ _ ?_ (fun hHeld => ?_)
        ·exact (hTr.ct.fr fa).cl.N
        clear hK K
        try simp only [Act.put,List.getElem_toArray,List.getElem_cons_zero,List.getElem_cons_succ,List.setIfInBounds_toArray,List.set_cons_zero,List.set_cons_succ]
        refine wpAnyH_ready (rs:=[1]) (by kernel_rfl) (by simp) ?_
        refine AllReadyH.cons rfl (fun K hK => ?_) AllReadyH.nil
        go_simp
        refine hK.out _ _ ?_ (fun hHeld => ?_)
        ·exact (hTr.ct.fr fa).cl.N
        clear hK K
        try simp only [Act.put,List.getElem_toArray,List.getElem_cons_zero,List.getElem_cons_succ,List.setIfInBounds_toArray,List.set_cons_zero,List.set_cons_succ]
        refine wpAnyH_ready (rs:=[5]) (by kernel_rfl) (by simp) ?_
        refine AllReadyH.cons rfl (fun K hK => ?_) AllReadyH.nil
        have hszX:(w8.alloc (.cells #[.int .i64 y.1] 3)).heap.size = w8.heap.size + 1:=by simp
        refine step_append_lies _ (by rfl) _ _ _ (by rfl) B1 3 ji (.int .i64 0) 1 8 Tryz.underlying176 ki kz0 kz1 kz2 rfl (by decide) iv j (r.1.map (Value.int .i64)) (by rfl) owna ⟨w8.heap.size,0,none⟩ 1 1 (#[Value.int .i64 y.1]).toList (by rfl) (by rfl) (World.news_of_block (heap_alloc_new w8 _)) (by simp [Value.oneCell']) (by omega) (by unfold maxLen; omega) (by omega) (by omega) _ rfl ?_
        intro g capg w9 own9 hg9 hat9 hlt9
        have hgn:∀ q,iv.ownBlock = some q → B1 ≤ q:=own_ge own7
        have h9:PS w9 (w.heap.size + 1 + 1) (w.heap.size) y.2:=⟨ha.E.grown hg9 (fun e => by have:=hgn _ e.symm; omega),ha.S.grown hg9 (fun e => by have:=hgn _ e.symm; omega)⟩
        have nb9:=nba.grown hg9 (fun e => by have:=hgn _ e.symm; omega)
        have f9:=fa.grown hg9 (fun q e => .inr (by have:=hgn _ e; omega))
        have hB9:B1 ≤ w9.heap.size:=by have:=hg9.size; omega
        have hx9:=nb9.cell 2
        have hz9:=nb9.free 2
        refine hK.out _ _ ?_ (fun hHeld => ?_)
        ·exact (hTr.ct.fr f9).cl.N
        clear hK K
        try simp only [Act.put,List.getElem_toArray,List.getElem_cons_zero,List.getElem_cons_succ,List.setIfInBounds_toArray,List.set_cons_zero,List.set_cons_succ]
        refine wpAnyH_take (i:=6) (oi:=_) (v := ?_) rfl (by kernel_rfl) (by kernel_rfl) (by kernel_rfl) (fun _ _ _ h => h) (Or.inl ⟨by rfl, ?_⟩) (by assumption) ?_
        rotate_left
        ·intro w' hSw
         (try dsimp only at hSw)
         have l0:=hSw.cell
         unfold numberV at l0
         clear hSw
         go_simp
         try with_reducible rfl
        try simp only [Act.put,List.getElem_toArray,List.getElem_cons_zero,List.getElem_cons_succ,List.setIfInBounds_toArray,List.set_cons_zero,List.set_cons_succ]
        refine wpAnyH_ready (rs:=[7]) (by kernel_rfl) (by simp) ?_
        refine AllReadyH.cons rfl (fun K hK => ?_) AllReadyH.nil
        go_simp
        have hgb:bx ≠ g:=fun e => by rcases hat9 with h | h; (have:=hgn _ h; omega); (rw [hszX] at h; omega)
        have nb10:=nb9.set 2 (.slice (some ⟨g,0,none⟩) (j + 1) capg)
        have f10:=f9.setCell (p:=⟨bx,2,none⟩) (.inr hbx) (.slice (some ⟨g,0,none⟩) (j + 1) capg)
        have h10:PS (w9.setCell ⟨bx,2,none⟩ (.slice (some ⟨g,0,none⟩) (j + 1) capg)) (w.heap.size + 1 + 1) (w.heap.size) y.2:=⟨h9.E.other (p:=⟨bx,2,none⟩) (by show _ ≠ bx; omega) _,h9.S.other (p:=⟨bx,2,none⟩) (by show _ ≠ bx; omega) _⟩
        have own10:=own_other own9 (p:=⟨bx,2,none⟩) hB1 (.slice (some ⟨g,0,none⟩) (j + 1) capg)
        refine hK.out _ _ ?_ (fun hHeld => ?_)
        ·exact (hTr.ct.fr f10).cl.N
        clear hK K
        try simp only [Act.put,List.getElem_toArray,List.getElem_cons_zero,List.getElem_cons_succ,List.setIfInBounds_toArray,List.set_cons_zero,List.set_cons_succ]
        refine wpAnyH_done (by kernel_rfl) ?_ _
        go_wp2_with fail
        go_roundw
        case measure => simp only [intOf]; omega
        case rel =>
         refine ⟨j + 1,_,rfl,by omega,f10, ?_,nb10, ?_,by simpa using hB9⟩
         ·rw [HSN.out]; exact h10
         ·rw [HSN.out,List.map_append]; exact own10
     ·have hljd:decide ((j:Int) < (kk:Int)) = false:=decide_eq_false (by omega)
      obtain rfl:j = kk:=by omega
      have hln:=reps_len Rd.num j p4
      have HAL2:acc.length < 12:=by have:=HAL.out; have:=hml.2; omega
      generalize reps Rd.num j p4 = r at *
      have hC7:=hTr.ct.fr f7
      have HEX:Hid (∀ W,PS W (w.heap.size + 1 + 1) (w.heap.size) r.2 → Ct W (w.heap.size + 1 + 1) (w.heap.size) (w.heap.size + 1 + 1 + 1) (w.heap.size + 1 + 1 + 1 + 1) (w.heap.size + 1 + 1 + 1 + 1 + 1) (w.heap.size + 1 + 1 + 1 + 1 + 1 + 1) bt → Calls Tryz.prog 154 #[.int .i64 17, .pointer (some ⟨(w.heap.size + 1 + 1 + 1),0,none⟩), .pointer (some ⟨(w.heap.size + 1 + 1 + 1 + 1 + 1 + 1),0,none⟩), .pointer (some ⟨(w.heap.size + 1 + 1 + 1 + 1),0,none⟩), .pointer (some ⟨(w.heap.size + 1 + 1 + 1 + 1 + 1),0,none⟩), .pointer (some ⟨bt,0,none⟩)] W (TakePost 17 (w.heap.size + 1 + 1) (w.heap.size) r.2 W)):=fun W h1 h2 => takeEx_c 17 (by omega) _ _ _ _ _ _ _ r.2 W hsr h1 h2
      have b0:=hC7.T.cell
      unfold takeV at b0
      have hIP:InsP wr (fun b => B1 ≤ b ∧ b < wr.heap.size) r.1 iv:=InsP.of_own (e:=3) (by rw [hln]; exact own7)
      clear own7 ki kz0 kz1 kz2
      go_wp2_with fail
      refine (HEX.out _ h7 hC7).mono ?_
      rintro e w8 ⟨sv,rfl,hy,h8,f8⟩
      obtain ⟨a2,n2,cap2,rfl⟩:=hy.slice
      have hps5:=Nat.le_trans (Rd.ex_size 17 r.2) hsr
      generalize Rd.ex 17 r.2 = q at *
      obtain ⟨y,p5⟩:=q
      dsimp only at HND hy h8 hps5
      have nb8:=nb7.fr f8 hbn
      have hbw:bx < wr.heap.size:=nb7.lt
      have hw8:=f8.size
      have hk8:∀ b,B1 ≤ b → b < wr.heap.size → w8.heap[b]? = wr.heap[b]? := fun b h1 h2 => f8.block b h2 (by rintro (q | q) <;> omega)
      replace f8:=f7.trans f8
      have z3:=nb8.free 3
      have z4:=nb8.free 4
      have z5:=nb8.free 5
      have c3:=nb8.cell 3
      have c4:=nb8.cell 4
      have c5:=nb8.cell 5
      clear b0 hC7 HEX
      go_upto_region 18 with fail
      clear z3 z4 z5 c3 c4 c5
      have hfar9:∀ b,b ≠ bx → (((w8.setCell ⟨bx,3,none⟩ (.int .u8 y.op)).setCell ⟨bx,4,none⟩ (.int .i64 y.n)).setCell ⟨bx,5,none⟩ (.slice a2 n2 cap2)).heap[b]? = w8.heap[b]? := fun b hb => by
       rw [heap_setCell_other _ ⟨bx,5,none⟩ b _ hb,heap_setCell_other _ ⟨bx,4,none⟩ b _ hb,heap_setCell_other _ ⟨bx,3,none⟩ b _ hb]
      have hsz9:(((w8.setCell ⟨bx,3,none⟩ (.int .u8 y.op)).setCell ⟨bx,4,none⟩ (.int .i64 y.n)).setCell ⟨bx,5,none⟩ (.slice a2 n2 cap2)).heap.size = w8.heap.size:=by simp
      have nb9:=nb8.nd_x (.int .u8 y.op) (.int .i64 y.n) (.slice a2 n2 cap2)
      have f9:=((f8.setCell (p:=⟨bx,3,none⟩) (.inr hbx) (.int .u8 y.op)).setCell (p:=⟨bx,4,none⟩) (.inr hbx) (.int .i64 y.n)).setCell (p:=⟨bx,5,none⟩) (.inr hbx) (.slice a2 n2 cap2)
      have h9:=PS.far345 h8 (b:=bx) (by omega) (by omega) (.int .u8 y.op) (.int .i64 y.n) (.slice a2 n2 cap2)
      generalize ((w8.setCell ⟨bx,3,none⟩ (.int .u8 y.op)).setCell ⟨bx,4,none⟩ (.int .i64 y.n)).setCell ⟨bx,5,none⟩ (.slice a2 n2 cap2) = w9 at *
      have hI9:InsP w9 (fun b => wo.heap.size ≤ b ∧ b < w9.heap.size) r.1 iv:=hIP.keep (fun b hb => ⟨by have:=hb.1; omega,by have:=hb.2; omega⟩) (fun b hb => (hfar9 b (by have:=hb.1; omega)).trans (hk8 b hb.1 hb.2))
      have hy9:ArgsP w9 (fun b => wo.heap.size ≤ b ∧ b < w9.heap.size) y.args (.slice a2 n2 cap2):=hy.keep (fun b hb => ⟨by have:=hb.1; omega,by have:=hb.2; omega⟩) (fun b hb => hfar9 b (by have:=hb.1; omega))
      have hB9:w2.heap.size ≤ w9.heap.size:=by omega
      have hT9:=hTr.step f9 h9 (by omega) (by omega) (by omega) (by omega)
      have hN9:=hNr.fr f9 (by omega) (by omega)
      have hnlt:=own_lt hNr.own
      have hnge:=own_ge hNr.own
      obtain ⟨an,capn,hav,_,_⟩:=(hNr.nodes (Nat.le_refl _)).slice
      subst hav
      obtain ⟨i0,ni,nz0,nz1,nz2⟩:=info_parts info_ndC
      clear hIP hy nb8 h8 f8 hfar9 hsz9 hTr hNr f7 h7 nb7
      have d0:=nb9.cell 0
      have d1:=nb9.cell 1
      have d2:=nb9.cell 2
      have d3:=nb9.cell 3
      have d4:=nb9.cell 4
      have d5:=nb9.cell 5
      have d6:=nb9.cell 6
      have e1:=hT9.j.cell 1
      have hivs:∃ ai ni ci,iv = .slice ai ni ci:=by rcases hI9 with ⟨_,h⟩ | ⟨g,c,h,_⟩ <;> exact ⟨_,_,_,h⟩
      obtain ⟨ai,nni,ci,rfl⟩:=hivs
      have HNA:=Lib.hid (own_alloc hN9.own (.cells #[.string u, .int .u8 kd, .slice ai nni ci, .int .u8 y.op, .int .i64 y.n, .slice a2 n2 cap2, .int .i64 n] 181))
      go_upto_region 19 with (at_builtin; refine wpList_append_lies _ rfl _ _ _ rfl w2.heap.size 181 i0 (.agg #[.string ⟨#[]⟩, .int .u8 0, .slice none 0 0, .int .u8 0, .int .i64 0, .slice none 0 0, .int .i64 0]) 7 96 Tryz.underlying24 ni nz0 nz1 nz2 rfl (by omega) (.slice an acc.length capn) acc.length cs rfl HNA.out ⟨w9.heap.size,0,none⟩ 1 1 (#[.string u, .int .u8 kd, .slice ai nni ci, .int .u8 y.op, .int .i64 y.n, .slice a2 n2 cap2, .int .i64 n]).toList rfl rfl (World.news_of_block (heap_alloc_new w9 _)) (by simp [Value.oneCell']) (by omega) (by unfold maxLen; omega) (by omega) (by simp; omega) _ rfl ?_; intro g capg w10 own10 hg10 hat10 hlt10; have k10:=(hT9.j.alloc (.cells #[.string u, .int .u8 kd, .slice ai nni ci, .int .u8 y.op, .int .i64 y.n, .slice a2 n2 cap2, .int .i64 n] 181)).grown hg10 (fun e => by have:=hnge _ e.symm; omega); have k10f:=k10.free 1; have k10c:=k10.cell 1)
      have hT10:=(hT9.keep ((Below.refl w9.heap.size w9).alloc (Nat.le_refl _) (.cells #[.string u, .int .u8 kd, .slice ai nni ci, .int .u8 y.op, .int .i64 y.n, .slice a2 n2 cap2, .int .i64 n] 181))).keepB (CtLt.of hT.ct) ⟨by omega,by omega,by omega,by omega⟩ (by omega) hg10.os hg10.tape hg10.output hg10.size (fun b hb => hg10.block b (by simp; omega) (fun e => by have:=hnge _ e.symm; omega))
      have hT11:=hT10.setJ (CtFar.of hC1) ⟨by omega,by omega,by omega⟩ (by omega) (.slice (some ⟨g,0,none⟩) (acc.length + 1) capg)
      have hN10:=hN9.snoc (y:=⟨u,kd,r.1,y,n⟩) (wx:=wo) hnlt f9.size hbig hu2 hI9 hy9 hg10 hat10 hlt10 own10
      have hN11:=hN10.keepB (wy:=w10.setCell ⟨w1.heap.size,1,none⟩ (.slice (some ⟨g,0,none⟩) (acc.length + 1) capg)) (by simp) (fun b hb _ => heap_setCell_other w10 ⟨w1.heap.size,1,none⟩ b _ (by show b ≠ w1.heap.size; omega))
      clear hT10 hN10 hT9 hN9 k10 k10f k10c hg10 own10 d0 d1 d2 d3 d4 d5 d6 e1 HNA
      generalize w10.setCell ⟨w1.heap.size,1,none⟩ (.slice (some ⟨g,0,none⟩) (acc.length + 1) capg) = w11 at *
      have e0:=hT11.ps.E.cell 0
      by_cases he:p5.e = 0
      ·have heb:(p5.e != 0) = false:=by simpa using he
       go_wp2_with fail
       go_roundw
       case measure => simp only [intOf]; omega
       case rel =>
        refine ⟨i + 1,acc ++ [⟨u,kd,r.1,y,n⟩],_,_,_,_,p5,rfl,by omega,by rw [List.length_append,HAL.out]; rfl, ?_,hps5,hT11,hN11⟩
        rw [HT2.out]
        simp only [takeNds]
        rw [HND.out,if_neg (by simpa using he)]
        dsimp only
        rw [List.append_assoc,show mm - (i + 1) = mm - i - 1 by omega]
        rfl
      ·have heb:(p5.e != 0) = true:=by simpa using he
       go_wp2_with fail
       go_meet
       rw [HJB.out,HT2.out]
       simp only [takeNds]
       rw [HND.out,if_pos he]
       exact ⟨_,_,_,_,hT11,hN11⟩
  ·have hltd:decide ((i:Int) < (mm:Int)) = false:=decide_eq_false (by omega)
   obtain rfl:i = mm:=by omega
   rw [Nat.sub_self] at hE
   simp only [takeNds,List.append_nil] at hE
   go_wp2_with fail
   go_meet
   rw [HJB.out,hE]
   exact ⟨av,cs,ivs,svs,hTr,hNr⟩
end Go.Proofs.YtpkijdkoiecpiaaGreatDoor
