/-
  Parts of the proof: K3 K4.
-/
import Derived.Maps.Own
import Derived.Maps.OwnOps
import Derived.Test.YtpkijdkoiecpiaaGreatDoorZS12
namespace Go.Proofs.YtpkijdkoiecpiaaGreatDoor
open Go.RowKit
set_option linter.unusedVariables false
set_option linter.unusedSimpArgs false
def MapIs (w:World) (b:Nat) (kv:List (Row × Int)):Prop:=∃ es clock,w.heap[b]? = some (.map es clock) ∧ EntsAre es.toList kv
namespace MapIs
variable {w w':World} {b:Nat} {kv:List (Row × Int)}
theorem lt (h:MapIs w b kv):b < w.heap.size:=by obtain ⟨es,clock,h,_⟩:=h; exact (Array.getElem?_eq_some_iff.1 h).1
theorem fr {S:Nat → Prop} (h:MapIs w b kv) (hf:Fr S w w') (hs : ¬ S b):MapIs w' b kv:=by obtain ⟨es,clock,h1,h2⟩:=h; exact ⟨es,clock,hf.heap_at h1 hs,h2⟩
theorem below {B:Nat} (h:MapIs w b kv) (hf:Below B w w') (hb:b < B):MapIs w' b kv:=by obtain ⟨es,clock,h1,h2⟩:=h; exact ⟨es,clock,(hf.block b hb).trans h1,h2⟩
theorem other (h:MapIs w b kv) {p:Addr} (hp:b ≠ p.block) (u:Value):MapIs (w.setCell p u) b kv:=by obtain ⟨es,clock,h1,h2⟩:=h; exact ⟨es,clock,(heap_setCell_other w p b u hp).trans h1,h2⟩
theorem alloc (h:MapIs w b kv) (o:Obj):MapIs (w.alloc o) b kv:=by have:=h.lt; obtain ⟨es,clock,h1,h2⟩:=h; exact ⟨es,clock,(alloc_old w o b this).trans h1,h2⟩
end MapIs
theorem findKey_row (r:Row) (w:World) (kv:List (Row × Int)) (es:List MapEntry) (h:EntsAre es kv) :
  (Instr.findKey 358 r.v es).run Tryz.prog w = .ok ((findRow r kv 0).map (fun p => (p.1,Value.int .u8 p.2))) w:=by
 have ha:=findAsking_row r w kv es 0 h
 unfold Instr.findKey
 cases es with
 | nil =>
  cases kv with
  | nil => simp [run_underlying Tryz.underlying358,Instr.findNow,findRow,Result.andThen]
  | cons p kv => simp [EntsAre] at h
 | cons e es =>
  simp [run_underlying Tryz.underlying358,Instr.findNow,Instr.sameNow,Result.andThen,ha]
theorem lookup_row {w:World} {b:Nat} {kv:List (Row × Int)} (h:MapIs w b kv) (r:Row) :
  (Instr.lookup 327 (.map (some b)) r.v false).run Tryz.prog w = .ok (.int .u8 (getRow r kv)) w:=by
 obtain ⟨es,clock,h1,h2⟩:=h
 have hz:(zeroValue 5).run Tryz.prog w = .ok (.int .u8 0) w:=by go_simp
 unfold Instr.lookup getRow
 cases hf:findRow r kv 0 with
 | none => simp [run_underlying Tryz.underlying327,MapKept.run_getObj_map h1,run_checkKey_row,findKey_row r w kv _ h2,hf,hz,Result.andThen]
 | some p => simp [run_underlying Tryz.underlying327,MapKept.run_getObj_map h1,run_checkKey_row,findKey_row r w kv _ h2,hf,Result.andThen]
theorem update_row {w:World} {b:Nat} {kv:List (Row × Int)} (h:MapIs w b kv) (r:Row) (x:Int) (hnew:findRow r kv 0 = none) :
  ∃ w',(Instr.mapUpdate 327 (.map (some b)) r.v (.int .u8 x)).run Tryz.prog w = .ok () w' ∧ MapIs w' b (kv ++ [(r,x)]) ∧ Fr (fun k => k = b) w w':=by
 have hlt:=h.lt
 obtain ⟨es,clock,h1,h2⟩:=h
 refine ⟨ChangeMaps.setBlock w b (.map (es.push ⟨r.v, .int .u8 x,clock⟩) (clock + 1)), ?_,⟨es.push ⟨r.v, .int .u8 x,clock⟩,clock + 1,by simp [ChangeMaps.setBlock,hlt], ?_⟩,⟨rfl,rfl,rfl,by simp [ChangeMaps.setBlock],fun k hk hs => ?_⟩⟩
 ·unfold Instr.mapUpdate
  simp [run_underlying Tryz.underlying327,MapKept.run_getObj_map h1,run_checkKey_row,findKey_row r w kv _ h2,hnew,MapKept.run_setObj_map _ h1,Result.andThen,ChangeMaps.setBlock]
 ·simp only [EntsAre,Array.toList_push,List.map_append,List.map_cons,List.map_nil] at h2 ⊢
  rw [h2]
 ·simp [ChangeMaps.setBlock,Ne.symm hs]
theorem wpList_lookup_row (w:World) {ops:Array Oper} {rest:List Oper} {o:Oper} {a:Act} {Q:Exit → Act → World → Prop}
  (hg:o.guard = none) (m x:Operand) (hop:o.op = Op.lookup 327 m x false) (b:Nat) (kv:List (Row × Int)) (hm:a.eval m = .map (some b)) (h:MapIs w b kv) (r:Row) (hx:a.eval x = r.v)
  (hK:wpList Tryz.prog ops Q rest (a.put o.dst (.int .u8 (getRow r kv))) w):wpList Tryz.prog ops Q (o :: rest) a w:=by
 refine wpList_plain hg fun K' hK' => ?_
 have hrun:=lookup_row h r
 unfold Oper.wp
 simp [execOp,hop,hm,hx,hrun,Result.andThen]
 exact hK' _ _ hK
theorem wpList_update_row (w:World) {ops:Array Oper} {rest:List Oper} {o:Oper} {a:Act} {Q:Exit → Act → World → Prop}
  (hg:o.guard = none) (m x v:Operand) (hop:o.op = Op.mapUpdate 327 m x v) (b:Nat) (kv:List (Row × Int)) (hm:a.eval m = .map (some b)) (h:MapIs w b kv) (r:Row) (hx:a.eval x = r.v)
  (y:Int) (hv:a.eval v = .int .u8 y) (hnew:findRow r kv 0 = none)
  (hK:∀ w',MapIs w' b (kv ++ [(r,y)]) → Fr (fun k => k = b) w w' → wpList Tryz.prog ops Q rest (a.put o.dst undef) w'):wpList Tryz.prog ops Q (o :: rest) a w:=by
 refine wpList_plain hg fun K' hK' => ?_
 obtain ⟨w',hrun,r1,r2⟩:=update_row h r y hnew
 unfold Oper.wp
 simp [execOp,hop,hm,hx,hv,hrun,Result.andThen]
 exact hK' _ _ (hK w' r1 r2)
def rowsOf (ty a b c:Int) (ops:List Int):List (Row × Int):=ops.map (fun o => (⟨o,a,b,c⟩,ty))
set_option maxHeartbeats 1000000 in
theorem put_c (ty A B C:Int) (ops:List Int) (n bs:Nat) (ts:TypeId) (Bm bm:Nat) (kv:List (Row × Int)) (w:World) (hn:ops.length = n) (hn2:n ≤ 1000)
  (hs:Blk w bs ts (ops.map (Value.int .u8)).toArray) (hp:w.cell? ⟨Bm,0,none⟩ = some (.map (some bm))) (hpb:Bm ≠ bm) (hpl:Bm < w.heap.size) (hsb:bs ≠ bm) (hm:MapIs w bm kv)
  (hnew:∀ j (h:j < ops.length),findRow ⟨ops[j],A,B,C⟩ (kv ++ rowsOf ty A B C (ops.take j)) 0 = none) :
  Calls Tryz.prog 272 #[.int .u8 ty, .agg #[.int .u8 A, .int .u8 B, .int .u8 C], .slice (some ⟨bs,0,none⟩) n n, .pointer (some ⟨Bm,0,none⟩)] w
   fun e w' => e = .returned (.tuple #[]) ∧ MapIs w' bm (kv ++ rowsOf ty A B C ops) ∧ Fr (fun k => k = bm) w w':=by
 have HNEW:=Lib.hid hnew
 have HN:=Lib.hid hn
 clear hnew hn
 go_enter Tryz.func272,Tryz.ntmps272
 go_wp2
 have hW:Fr (fun k => k = bm) w (w.alloc (.cells #[.int .u8 A, .int .u8 B, .int .u8 C] 356)):=(Fr.refl _ w).alloc _
 have hA:=Blk.new w #[.int .u8 A, .int .u8 B, .int .u8 C] 356
 have hp1:=(hW.block Bm hpl (by exact hpb))
 have hp':(w.alloc (.cells #[.int .u8 A, .int .u8 B, .int .u8 C] 356)).cell? ⟨Bm,0,none⟩ = some (.map (some bm)):=(((Below.refl _ w).alloc (Nat.le_refl _) _).cell (p:=⟨Bm,0,none⟩) hpl).trans hp
 have hm':=hm.alloc (.cells #[.int .u8 A, .int .u8 B, .int .u8 C] 356)
 have hs':=hs.alloc (.cells #[.int .u8 A, .int .u8 B, .int .u8 C] 356)
 have hmlt:=hm.lt
 generalize World.alloc w _ = W at *
 go_loopw [11] (fun q wr => ∃ j:Nat,q = .int .i64 j ∧ j ≤ n ∧ Fr (fun k => k = bm) w wr ∧ Blk wr bs ts (ops.map (Value.int .u8)).toArray ∧ Blk wr w.heap.size 356 #[.int .u8 A, .int .u8 B, .int .u8 C] ∧
  wr.cell? ⟨Bm,0,none⟩ = some (.map (some bm)) ∧ MapIs wr bm (kv ++ rowsOf ty A B C (ops.take j))) (fun q _ => n - (intOf q).toNat)
 case atStart => exact ⟨0,rfl,Nat.zero_le _,hW,hs',hA,hp',by simpa [rowsOf] using hm'⟩
 case round =>
  obtain ⟨j,rfl,hj,hFr,hsr,hAr,hpr,hmr⟩:=hrel
  by_cases hlt:j < n
  ·have hjl:j < ops.length:=by have:=HN.out; omega
   have hcell:wr.cell? ⟨bs,j,none⟩ = some (.int .u8 (ops[j]'hjl)):=by rw [hsr.cell j]; simp [hjl]
   have a0:=hAr.cell 0
   have a1:=hAr.cell 1
   have a2:=hAr.cell 2
   have HF:=Lib.hid (HNEW.out j hjl)
   have HT:=Lib.hid (List.take_succ_eq_append_getElem hjl)
   generalize ops[j] = o at *
   go_wp2_with (at_mapUpdate; refine wpList_update_row _ rfl _ _ _ rfl bm _ rfl hmr ⟨o,A,B,C⟩ rfl ty rfl HF.out ?_; intro w3 hm3 hf3)
   go_roundw
   case rel =>
    refine ⟨j + 1,by go_num,by omega,hFr.trans hf3,hsr.fr hf3 hsb,hAr.fr hf3 (by omega), ?_, ?_⟩
    ·exact (World.cell?_of_block (a:=⟨Bm,0,none⟩) (hf3.block Bm (Nat.lt_of_lt_of_le hpl hFr.size) hpb)).trans hpr
    ·rw [HT.out]; simpa [rowsOf,List.append_assoc] using hm3
   case measure => simp [intOf]; omega
  ·have HT:=Lib.hid (show ops.take j = ops from List.take_of_length_le (by have:=HN.out; omega))
   go_wp2
   go_end0
   refine ⟨rfl, ?_,hFr⟩
   rw [HT.out] at hmr
   exact hmr
end Go.Proofs.YtpkijdkoiecpiaaGreatDoor
