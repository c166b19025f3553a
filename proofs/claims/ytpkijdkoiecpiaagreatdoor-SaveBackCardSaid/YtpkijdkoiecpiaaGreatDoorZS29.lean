/-
  Parts of the proof: H6.
-/
import Derived.Shelf.SlSortCmp.NoneTotal
import Derived.Test.YtpkijdkoiecpiaaGreatDoorZS27
import Derived.Test.YtpkijdkoiecpiaaGreatDoorZS28
namespace Go.Proofs.YtpkijdkoiecpiaaGreatDoor
open Go.RowKit
set_option linter.unusedVariables false
set_option linter.unusedSimpArgs false
section
open Go.RowKit Go.Sort Go.Shelf
theorem bef_self (a:Int):bef a a = 0:=by unfold bef; simp
theorem bef_swo:SWO (ltOf bef):=by
 refine ⟨fun x => ?_,fun x y z h1 h2 => ?_,fun x y z h1 h2 => ?_⟩
 ·unfold ltOf; rw [bef_self]; rfl
 ·unfold ltOf at *
  simp only [decide_eq_true_eq] at *
  exact bef_trans h1 h2
 ·unfold ltOf at *
  simp only [decide_eq_false_iff_not,Int.not_lt] at *
  unfold bef at *
  repeat' split at h1
  all_goals repeat' split at h2
  all_goals repeat' split
  all_goals omega
theorem before_lays (blk off n:Nat) (w:World):CmpLays1 Tryz.prog 199 #[] (Value.int .i64) bef blk off n w:=fun m os dk hs x y => by
 refine (before_g x y _).mono ?_
 rintro e w1 ⟨rfl,o,rfl⟩
 refine ⟨rfl,0,#[o], ?_⟩
 unfold grow World.drewN
 show ({ sortWorld (Value.int .i64) w blk off m dk os with heap:=(sortWorld (Value.int .i64) w blk off m dk os).heap.push o }:World) = _
 rw [← Array.append_singleton]
 rfl
set_option maxRecDepth 100000 in
theorem MapI.owns {w:World} {b:Nat} {kv:List (Int × Value)} (h:MapI w .i64 b kv) (hn:(kv.map (·.1)).Nodup) (h64:∀ p ∈ kv,I64 p.1) (hl:kv.length ≤ 1000) :
  ∃ D:DataW Unit,w.ownsMap Tryz.prog 2 (fun _ => some (.nil,[])) b kv.length D ∧ (∀ ss:List Int,ss.Perm (intKeys D) → ss.Perm (kv.map (·.1))) ∧ Maps.size D = kv.length:=by
 obtain ⟨es,clock,h1,h2,h3,h4⟩:=h
 have hk:es.toList.map (·.key) = kv.map fun p => Value.int .i64 p.1:=by
  have:=congrArg (List.map Prod.fst) h2
  unfold kvs entsI at this
  rw [List.map_map,List.map_map] at this
  exact this
 have hsz:es.size = kv.length:=by
  have:=congrArg List.length hk
  simpa using this
 have hkey:∀ x ∈ es.toList,∃ r,x.key = .int .i64 r ∧ keyOf Tryz.prog 2 x.key = some (.int .i64 r):=by
  intro x hx
  have:x.key ∈ es.toList.map (·.key):=List.mem_map_of_mem hx
  rw [hk] at this
  obtain ⟨p,hp,e⟩:=List.mem_map.1 this
  refine ⟨p.1,e.symm, ?_⟩
  rw [← e]
  have:=h64 p hp
  exact Maps.keyOf_int_mk Tryz.underlying2 (by unfold I64 at this; rw [Lit.wf]; simp only [IntKind.min,IntKind.max,IntKind.signed,IntKind.bits]; simp; omega)
 have hrd:∀ x ∈ es.toList,∃ r,x.key = .int .i64 r ∧ WideElems.rd (H:=Unit) Tryz.prog 2 (fun _ => some (.nil,[])) x = some (.int .i64 r, .nil):=by
  intro x hx
  obtain ⟨r,e1,e2⟩:=hkey x hx
  refine ⟨r,e1, ?_⟩
  unfold WideElems.rd
  rw [e2]
  rfl
 refine ⟨.map ((es.toList.map (WideElems.rg Tryz.prog 2 (fun _ => some (.nil,[])))).foldr DataW.insert []),⟨es,clock,h1,⟨by rw [hsz]; unfold maxLen; omega,⟨h4,h3, ?_⟩,fun x hx => ?_⟩,by omega,rfl⟩,fun ss hss => ?_, ?_⟩
 ·rw [hk]
  have:(kv.map fun p => Value.int .i64 p.1) = (kv.map (·.1)).map (Value.int .i64):=by simp
  rw [this]
  exact List.Pairwise.map _ (fun a b hab e => hab (by cases e; rfl)) hn
 ·obtain ⟨r,_,e⟩:=hrd x hx
  exact ⟨_,e⟩
 ·refine hss.trans ?_
  have hp:=(WideShapes.sorted_perm (es.toList.map (WideElems.rg (H:=Unit) Tryz.prog 2 (fun _ => some (.nil,[]))))).map fun p => Go.intOf p.1
  refine hp.trans (List.Perm.of_eq ?_)
  rw [List.map_map]
  have e1:es.toList.map ((fun p:Lit × DataW Unit => Go.intOf p.1) ∘ WideElems.rg Tryz.prog 2 (fun _ => some (.nil,[]))) = es.toList.map (fun x => Lib.intOf x.key):=by
   refine List.map_congr_left fun x hx => ?_
   obtain ⟨r,e1,e2⟩:=hrd x hx
   show Go.intOf (WideElems.rg _ _ _ x).1 = _
   unfold WideElems.rg
   rw [e2,e1]
   rfl
  rw [e1]
  have e2:=congrArg (List.map Lib.intOf) hk
  rw [List.map_map,List.map_map] at e2
  exact e2
 ·rw [Maps.size_eq,(WideShapes.sorted_perm _).length_eq,List.length_map,Array.length_toList,hsz]
theorem before_enters:∀ args w,(callFunc 199 args).run Tryz.prog w = .ok (.enter 199 args) w:=fun args w => by kernel_rfl
theorem keys1_enters:∀ args w,(callFunc 267 args).run Tryz.prog w = .ok (.enter 267 args) w:=fun args w => by kernel_rfl
theorem collect_c (Bm B:Nat) (kv:List (Int × Value)) (w:World) (hBm:Bm < w.heap.size) (hc:w.cell? ⟨Bm,0,none⟩ = some (.map (some B))) (h:MapI w .i64 B kv) (hn:(kv.map (·.1)).Nodup) (h64:∀ p ∈ kv,I64 p.1) (hl:kv.length ≤ 1000) :
  Calls Tryz.prog 265 #[.func (.func 267) #[] #[.pointer (some ⟨Bm,0,none⟩)]] w fun e w' => ∃ (v:Value) (ss:List Int),e = .returned v ∧ ss.Perm (kv.map (·.1)) ∧ w'.ownsRow w.heap.size 2 1 v ss.length (ss.map (Value.int .i64)) ∧ Below w.heap.size w w':=by
 obtain ⟨D,hown,hperm,hsz⟩:=h.owns hn h64 hl
 have hseq:=AnyZI.keys_gives (P:=Tryz.prog) (ρ:=Tryz.keysL_ren) { Tryz.keysL with } Fence.wide 8 trivial rfl (by decide) Bm B kv.length D w hBm hc hown
 refine (callsIn_wide.1 (AnyZI.collect_in Tryz.collectL Fence.wide 10 trivial trivial rfl (by decide) 267 #[.pointer (some ⟨Bm,0,none⟩)] trivial keys1_enters _ (Maps.size D) (by rw [hsz]; unfold maxLen; omega) (by omega) w hseq)).mono ?_
 rintro e w1 ⟨v,ss,rfl,hS,hrow,_,hb⟩
 exact ⟨v,ss,rfl,hperm ss hS,hrow,hb⟩
theorem sort_c (gb cap:Nat) (ss:List Int) (W:World) (hH:Holds (Value.int .i64) W gb 0 ss.toArray) (hgb:gb < W.heap.size) (hl:ss.length ≤ 1000) :
  Calls Tryz.prog 266 #[.slice (some ⟨gb,0,none⟩) ss.length cap, .func (.func 199) #[] #[]] W fun e w' => e = .returned (.tuple #[]) ∧ ∃ (ts:List Int) (n:Nat) (os:Array Obj),ts.Perm ss ∧ w' = grow (putRow (Value.int .i64) (Sort.ahead W n) gb 0 ts.toArray) os:=by
 refine (Any.slices_SortFunc Tryz.sortL (Value.int .i64) (fun _ => rfl) bef bef_swo 199 #[] gb 0 cap ss.toArray W before_enters (before_lays gb 0 _ W) hH hgb (by simp; omega)).mono ?_
 rintro e w1 ⟨rfl,d,n,os,hp,_,rfl⟩
 refine ⟨rfl,d.toList,n,os, ?_,rfl⟩
 have h1:=hp.1
 have h2:=hp.2.2
 have e1:ss.toArray.extract 0 ss.toArray.size = ss.toArray:=Array.extract_eq_self_of_le (Nat.le_refl _)
 have e2:d.extract 0 ss.toArray.size = d:=Array.extract_eq_self_of_le (Nat.le_of_eq h1)
 rw [e1,e2] at h2
 exact h2
theorem sort_none (W:World):Calls Tryz.prog 266 #[.slice none 0 0, .func (.func 199) #[] #[]] W fun e w' => e = .returned (.tuple #[]) ∧ w' = W :=
 AnyF.slices_SortFunc_none { Tryz.sortL with } none 0 _ W
set_option maxRecDepth 100000 in
theorem SortedFunc_c (Bm B:Nat) (kv:List (Int × Value)) (w:World) (hBm:Bm < w.heap.size) (hc:w.cell? ⟨Bm,0,none⟩ = some (.map (some B))) (h:MapI w .i64 B kv) (hn:(kv.map (·.1)).Nodup) (h64:∀ p ∈ kv,I64 p.1) (hl:kv.length ≤ 1000) :
  Calls Tryz.prog 234 #[.func (.func 267) #[] #[.pointer (some ⟨Bm,0,none⟩)], .func (.func 199) #[] #[]] w fun e w' => ∃ (v:Value) (ks:List Int),e = .returned v ∧ ks.Perm (kv.map (·.1)) ∧ InsP w' (fun b => w.heap.size ≤ b ∧ b < w'.heap.size) ks v ∧ Below w.heap.size w w':=by
 have HC:=Lib.hid (collect_c Bm B kv w hBm hc h hn h64 hl)
 have HL:Hid (kv.length ≤ 1000):=hl
 clear hc h hn h64 hl hBm
 go_enter Tryz.func234,Tryz.ntmps234
 go_upto_region 2 with (first | (go_at_call 265; refine HC.out.mono ?_; rintro e W ⟨v,ss,rfl,hp,hrow,hb⟩) | fail)
 have hss:ss.length ≤ 1000:=by have:=hp.length_eq; have:=HL.out; simp at *; omega
 rcases hrow.2 with ⟨rfl,hz⟩ | ⟨gb,cap,cur,rfl,hbase,hgb,r1,r2,r3,r4⟩
 ·obtain rfl:ss = []:=List.eq_nil_of_length_eq_zero hz
  go_wp2_with (first | (go_at_call 266; refine (sort_none _).mono ?_; rintro e w2 ⟨rfl,rfl⟩) | fail)
  go_ret
  exact ⟨_,[],rfl,hp, .inl ⟨rfl,rfl⟩,hb⟩
 ·have hH:Holds (Value.int .i64) W gb 0 ss.toArray:=holds_of_block_i hgb (by simpa using r4)
  have HS:=Lib.hid (sort_c gb cap ss W hH (Array.getElem?_eq_some_iff.1 hgb).1 hss)
  have HG:=Lib.hid hgb
  have HP:=Lib.hid hp
  clear hH r4 hgb hrow hp
  go_wp2_with (first | (go_at_call 266; refine HS.out.mono ?_; rintro e w2 ⟨rfl,ts,n,os,hq,rfl⟩) | fail)
  go_ret
  have hrow2:=ownsRow_sorted_i (os:=os) (n:=n) (hq.length_eq) hbase HG.out r1 r2 r3
  rw [← hq.length_eq] at hrow2
  have hb2:=hb.grown (grownBy_sorted_i (n:=n) (os:=os) ts.toArray) hb.size (fun j hj => by cases hj; exact hbase)
  exact ⟨_,ts,by rw [← hq.length_eq]; rfl,hq.trans HP.out,InsP.of_own hrow2,hb2⟩
theorem tkv_keys (ps:List (Trow × Value)):(tkv ps).map (·.1) = (ps.map Prod.fst).map (·.key):=by simp [tkv]
set_option maxRecDepth 100000 in
theorem Keys_c (P:Nat → Prop) (T B:Nat) (ps:List (Trow × Value)) (w:World) (h:TabAt w P T B ps) (hr:Rise (ps.map Prod.fst)) (h64:∀ p ∈ ps,I64 p.1.key) (hl:ps.length ≤ 1000) :
  Calls Tryz.prog 202 #[px T] w fun e w' => ∃ (v:Value) (ks:List Int),e = .returned v ∧ ks.Perm ((ps.map Prod.fst).map (·.key)) ∧ InsP w' (fun b => w.heap.size ≤ b ∧ b < w'.heap.size) ks v ∧ Below w.heap.size w w':=by
 have t0:=h.box.cell 0
 have hmap:=h.map.alloc (.cells #[.map (some B)] 276)
 have HK:Hid (Calls Tryz.prog 235 #[.map (some B)] w fun e w' => e = .returned (.func (.func 267) #[] #[.pointer (some ⟨w.heap.size,0,none⟩)]) ∧ w' = w.alloc (.cells #[.map (some B)] 276)):=callsIn_wide.1 (AnyZI.keys_in Tryz.keysL Fence.wide 3 trivial rfl (some B) w)
 have hn:=hr.keys
 rw [← tkv_keys] at hn
 have HS:=Lib.hid (SortedFunc_c w.heap.size B (tkv ps) (w.alloc (.cells #[.map (some B)] 276)) (by simp) ((Blk.new w #[.map (some B)] 276).cell 0) hmap hn (fun p hp => by
  obtain ⟨q,hq,rfl⟩:=List.mem_map.1 hp
  exact h64 q hq) (by rw [tkv_len]; exact hl))
 rw [tkv_keys] at HS
 have hb:Below w.heap.size w (w.alloc (.cells #[.map (some B)] 276)):=(Below.refl _ _).alloc (Nat.le_refl _) _
 have HSZ:Hid ((w.alloc (.cells #[.map (some B)] 276)).heap.size = w.heap.size + 1):=by show _ = _; simp
 clear h hmap hn hr
 unfold px
 go_enter Tryz.func202,Tryz.ntmps202
 go_wp2_with (first
  | (go_at_call 235; refine HK.out.mono ?_; rintro e w1 ⟨rfl,rfl⟩)
  | (go_at_call 234; refine HS.out.mono ?_; rintro e w2 ⟨v,ks,rfl,hp,hi,hb2⟩)
  | fail)
 go_ret
 rw [HSZ.out] at hi hb2
 exact ⟨v,ks,rfl,hp,hi.keep (fun b hb => ⟨by omega,hb.2⟩) (fun _ _ => rfl),hb.trans (hb2.mono (by omega))⟩
end
end Go.Proofs.YtpkijdkoiecpiaaGreatDoor
