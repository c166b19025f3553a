/-
  Parts of the proof: OD.
-/
import Derived.Deep.MidRow
import Derived.Test.YtpkijdkoiecpiaaGreatDoorZS1
namespace Go.Proofs.YtpkijdkoiecpiaaGreatDoor
open Go.RowKit
set_option linter.unusedVariables false
set_option linter.unusedSimpArgs false
def dkL (d:Dk) (lv:Value):List Value := .int .i64 d.room :: (d.now.map Value.string ++ (d.sure.map Value.string ++ [lv, .bool d.off, .int .i64 d.left]))
def dkC (d:Dk) (lv:Value):Array Value:=(dkL d lv).toArray
section
variable {d:Dk} {lv:Value} (h1:d.now.length = 16) (h2:d.sure.length = 16)
include h1 in
theorem dkL_now (f:Nat) (hf:f < 16):(dkL d lv)[1 + f]? = some (.string (fl d.now f)):=by
 rw [Nat.add_comm]
 unfold dkL
 rw [List.getElem?_cons_succ,List.getElem?_append_left (by simp; omega),List.getElem?_map,List.getElem?_eq_getElem (by omega),Option.map_some,fl_get]
include h1 h2 in
theorem dkL_sure (f:Nat) (hf:f < 16):(dkL d lv)[17 + f]? = some (.string (fl d.sure f)):=by
 rw [show 17 + f = (16 + f) + 1 by omega]
 unfold dkL
 rw [List.getElem?_cons_succ,List.getElem?_append_right (by simp; omega),List.length_map,h1,Nat.add_sub_cancel_left,List.getElem?_append_left (by simp; omega),List.getElem?_map,List.getElem?_eq_getElem (by omega),Option.map_some,fl_get]
include h1 h2 in
theorem dkL_hi (k:Nat):(dkL d lv)[33 + k]? = [lv, .bool d.off, .int .i64 d.left][k]? := by
 rw [show 33 + k = (32 + k) + 1 by omega]
 unfold dkL
 rw [List.getElem?_cons_succ,List.getElem?_append_right (by simp; omega),List.length_map,h1,show 32 + k - 16 = 16 + k by omega,List.getElem?_append_right (by simp; omega),List.length_map,h2,Nat.add_sub_cancel_left]
include h1 h2 in
theorem dkL_len:(dkL d lv).length = 36:=by unfold dkL; simp [h1,h2]
include h1 in
theorem dkL_set_now (f:Nat) (hf:f < 16) (s:ByteArray):(dkL d lv).set (1 + f) (.string s) = dkL { d with now:=d.now.set f s } lv:=by
 rw [Nat.add_comm]
 unfold dkL
 rw [List.set_cons_succ,List.set_append_left _ _ (by simp; omega), ← List.map_set]
include h1 h2 in
theorem dkL_set_sure (f:Nat) (hf:f < 16) (s:ByteArray):(dkL d lv).set (17 + f) (.string s) = dkL { d with sure:=d.sure.set f s } lv:=by
 rw [show 17 + f = (16 + f) + 1 by omega]
 unfold dkL
 rw [List.set_cons_succ,List.set_append_right _ _ (by simp; omega),List.length_map,h1,Nat.add_sub_cancel_left,List.set_append_left _ _ (by simp; omega), ← List.map_set]
include h1 h2 in
theorem dkL_set_hi (k:Nat) (v:Value):(dkL d lv).set (33 + k) v = .int .i64 d.room :: (d.now.map Value.string ++ (d.sure.map Value.string ++ [lv, .bool d.off, .int .i64 d.left].set k v)):=by
 rw [show 33 + k = (32 + k) + 1 by omega]
 unfold dkL
 rw [List.set_cons_succ,List.set_append_right _ _ (by simp; omega),List.length_map,h1,show 32 + k - 16 = 16 + k by omega,List.set_append_right _ _ (by simp; omega),List.length_map,h2,Nat.add_sub_cancel_left]
end
namespace Dk
structure Len (d:Dk):Prop where
 n:d.now.length = 16
 s:d.sure.length = 16
end Dk
theorem Dk.Inv.len {d:Dk} (h:d.Inv):d.Len:=⟨h.now16,h.sure16⟩
section
variable {d:Dk} {lv:Value} (h:d.Len)
theorem dkC_0:(dkC d lv)[0]? = some (.int .i64 d.room):=rfl
include h in
theorem dkC_now (f:Nat) (hf:f < 16):(dkC d lv)[1 + f]? = some (.string (fl d.now f)):=by unfold dkC; rw [List.getElem?_toArray,dkL_now h.n f hf]
include h in
theorem dkC_sure (f:Nat) (hf:f < 16):(dkC d lv)[17 + f]? = some (.string (fl d.sure f)):=by unfold dkC; rw [List.getElem?_toArray,dkL_sure h.n h.s f hf]
include h in
theorem dkC_33:(dkC d lv)[33]? = some lv:=by unfold dkC; rw [List.getElem?_toArray]; exact dkL_hi h.n h.s 0
include h in
theorem dkC_34:(dkC d lv)[34]? = some (.bool d.off):=by unfold dkC; rw [List.getElem?_toArray]; exact dkL_hi h.n h.s 1
include h in
theorem dkC_35:(dkC d lv)[35]? = some (.int .i64 d.left):=by unfold dkC; rw [List.getElem?_toArray]; exact dkL_hi h.n h.s 2
include h in
theorem dkC_size:(dkC d lv).size = 36:=by unfold dkC; rw [List.size_toArray]; exact dkL_len h.n h.s
include h in
theorem dkC_set_now (f:Nat) (hf:f < 16) (s:ByteArray):(dkC d lv).setIfInBounds (1 + f) (.string s) = dkC { d with now:=d.now.set f s } lv:=by
 unfold dkC; rw [List.setIfInBounds_toArray,dkL_set_now h.n f hf]
include h in
theorem dkC_set_sure (f:Nat) (hf:f < 16) (s:ByteArray):(dkC d lv).setIfInBounds (17 + f) (.string s) = dkC { d with sure:=d.sure.set f s } lv:=by
 unfold dkC; rw [List.setIfInBounds_toArray,dkL_set_sure h.n h.s f hf]
include h in
theorem dkC_set_33 (v:Value):(dkC d lv).setIfInBounds 33 v = dkC d v:=by
 unfold dkC; rw [List.setIfInBounds_toArray,show 33 = 33 + 0 from rfl,dkL_set_hi h.n h.s]; rfl
include h in
theorem dkC_set_34 (b:Bool):(dkC d lv).setIfInBounds 34 (.bool b) = dkC { d with off:=b } lv:=by
 unfold dkC; rw [List.setIfInBounds_toArray,show 34 = 33 + 1 from rfl,dkL_set_hi h.n h.s]; rfl
include h in
theorem dkC_set_35 (n:Int):(dkC d lv).setIfInBounds 35 (.int .i64 n) = dkC { d with left:=n } lv:=by
 unfold dkC; rw [List.setIfInBounds_toArray,show 35 = 33 + 2 from rfl,dkL_set_hi h.n h.s]; rfl
end
theorem Chg.len {d:Dk} (h:d.Len) (c:Chg):Dk.Len { d with now:=c.does d.now }:=⟨(c.does_len _).trans h.n,h.s⟩
def setL (l:List Value):Nat → List Value → List Value
 | _,[] => l
 | o,v :: r => setL (l.set o v) (o + 1) r
theorem setL_mid:∀ (vs a b c:List Value),b.length = vs.length → setL (a ++ (b ++ c)) a.length vs = a ++ (vs ++ c)
 | [],a,b,c,h => by
  have:b = []:=List.length_eq_zero_iff.1 h
  subst this
  rfl
 | v :: vs,a,[],c,h => by simp at h
 | v :: vs,a,x :: b,c,h => by
  have e:(a ++ (x :: b ++ c)).set a.length v = (a ++ [v]) ++ (b ++ c):=by
   rw [List.set_append_right _ _ (Nat.le_refl _),Nat.sub_self]
   simp
  have ih:=setL_mid vs (a ++ [v]) b c (by simpa using h)
  unfold setL
  rw [e,show a.length + 1 = (a ++ [v]).length by simp,ih]
  simp
theorem Blk.setCells:∀ {w:World} {b:Nat} {t:TypeId} {l:List Value} (vs:List Value) (o:Nat),Blk w b t l.toArray → Blk (w.setCells b o vs) b t (setL l o vs).toArray
 | w,b,t,l,[],o,h => h
 | w,b,t,l,v :: vs,o,h => by
  have h1:=h.set o v
  rw [List.setIfInBounds_toArray] at h1
  exact Blk.setCells vs (o + 1) h1
theorem Fr.setCells {S:Nat → Prop} {a:World} (b:Nat):∀ (vs:List Value) (o:Nat) (w:World),Fr S a w → (S b ∨ a.heap.size ≤ b) → Fr S a (w.setCells b o vs)
 | [],_,_,h,_ => h
 | v :: vs,o,w,h,hb => Fr.setCells b vs (o + 1) _ (h.setCell (p:=⟨b,o,none⟩) hb v) hb
section
variable {d:Dk} {lv:Value} (h:d.Len)
include h in
theorem dkL_store_sure:setL (dkL d lv) 17 (d.now.map Value.string) = dkL { d with sure:=d.now } lv:=by
 have e:dkL d lv = (.int .i64 d.room :: d.now.map Value.string) ++ (d.sure.map Value.string ++ [lv, .bool d.off, .int .i64 d.left]):=by unfold dkL; simp
 rw [e,show 17 = (.int .i64 d.room :: d.now.map Value.string).length by simp [h.n],setL_mid _ _ _ _ (by simp [h.n,h.s])]
 unfold dkL
 simp
include h in
theorem dkL_store_now:setL (dkL d lv) 1 (d.sure.map Value.string) = dkL { d with now:=d.sure } lv:=by
 have e:dkL d lv = [.int .i64 d.room] ++ (d.now.map Value.string ++ (d.sure.map Value.string ++ [lv, .bool d.off, .int .i64 d.left])):=by unfold dkL; simp
 rw [e,show 1 = ([.int .i64 d.room]:List Value).length from rfl,setL_mid _ _ _ _ (by simp [h.n,h.s])]
 unfold dkL
 simp
end
section
variable {w:World} {D:Nat} {t:TypeId} {d:Dk} {lv:Value} (hb:Blk w D t (dkC d lv)) (h:d.Len)
include hb h in
theorem dk_range_now:w.rangeAt D 1 (d.now.map Value.string):=fun j v hv => by
 have hj:j < 16:=by have:=(List.getElem?_eq_some_iff.1 hv).1; rw [List.length_map,h.n] at this; exact this
 rw [hb.cell,dkC_now h j hj, ← hv,List.getElem?_map,List.getElem?_eq_getElem (by rw [h.n]; exact hj),Option.map_some,fl_get]
include hb h in
theorem dk_range_sure:w.rangeAt D 17 (d.sure.map Value.string):=fun j v hv => by
 have hj:j < 16:=by have:=(List.getElem?_eq_some_iff.1 hv).1; rw [List.length_map,h.s] at this; exact this
 rw [hb.cell,dkC_sure h j hj, ← hv,List.getElem?_map,List.getElem?_eq_getElem (by rw [h.s]; exact hj),Option.map_some,fl_get]
include hb h in
theorem dk_there (o n:Nat) (hn:o + n ≤ 36):w.there D o n:=fun j hj => by
 refine ⟨?_,hb.free _⟩
 rw [hb.cell,Array.getElem?_eq_getElem (by rw [dkC_size h]; omega)]
 rfl
include hb h in
theorem dk_store_sure:Blk (w.setCells D 17 (d.now.map Value.string)) D t (dkC { d with sure:=d.now } lv):=by
 have:=Blk.setCells (l:=dkL d lv) (d.now.map Value.string) 17 hb
 rw [dkL_store_sure h] at this
 exact this
include hb h in
theorem dk_store_now:Blk (w.setCells D 1 (d.sure.map Value.string)) D t (dkC { d with now:=d.sure } lv):=by
 have:=Blk.setCells (l:=dkL d lv) (d.sure.map Value.string) 1 hb
 rw [dkL_store_now h] at this
 exact this
end
theorem strs_one (l:List ByteArray):((l.map Value.string).toArray).all (·.oneCell') = true:=all_oneCell_toArray (by
 intro v hv
 obtain ⟨s,_,rfl⟩:=List.mem_map.1 hv
 rfl)
end Go.Proofs.YtpkijdkoiecpiaaGreatDoor
