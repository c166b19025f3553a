/-
  Parts of the proof: J9 J10 J11.
-/
import Derived.Deep.CutBlock
import Derived.Test.YtpkijdkoiecpiaaGreatDoorZS12
import Derived.Test.YtpkijdkoiecpiaaGreatDoorZS17
namespace Go.Proofs.YtpkijdkoiecpiaaGreatDoor
open Go.RowKit
set_option linter.unusedVariables false
set_option linter.unusedSimpArgs false
theorem own_ne {w:World} {base:Nat} {e t:TypeId} {g n cap b:Nat} {xs:List Value} {cs:Array Value} (h:w.ownsRow base e 1 (.slice (some ⟨g,0,none⟩) n cap) n xs) (hb:Blk w b t cs) (hne:e ≠ t):g ≠ b:=by
 rcases h.2 with ⟨h0,_⟩ | ⟨g',cap',cur,hv,_,hg,_⟩
 ·cases h0
 ·simp only [Value.slice.injEq,Option.some.injEq,Addr.mk.injEq,and_true,true_and] at hv
  obtain ⟨rfl,rfl⟩:=hv
  intro he
  subst he
  unfold Blk at hb
  rw [hg] at hb
  simp only [Option.some.injEq,Obj.cells.injEq] at hb
  exact hne hb.2.1
theorem own_keep {w w':World} {base:Nat} {e:TypeId} {size n:Nat} {v:Value} {xs:List Value} (h:w.ownsRow base e size v n xs) (hb:Below w.heap.size w w'):w'.ownsRow base e size v n xs :=
 h.kept (row:=none) ⟨hb.os,hb.tape,hb.output,hb.size,fun k hk _ => hb.block k hk⟩ (by cases hv:v.ownBlock <;> simp)
theorem Sl.across {a b w:World} {B size n:Nat} {v:Value} {cs:List Value} (h:Sl a B size v n cs) (h1:Below B w a) (h2:Below B w b):Sl b B size v n cs:=by
 obtain ⟨g1,d,cap,hv,g2,g3,g4⟩:=h
 refine ⟨g1,d,cap,hv,g2,g3,g4.imp id ?_⟩
 rintro ⟨k,off,ha,hlt,hc⟩
 exact ⟨k,off,ha,hlt,fun j hj => (h2.cell (p:=⟨k,off + j,none⟩) hlt).trans ((h1.cell (p:=⟨k,off + j,none⟩) hlt).symm.trans (hc j hj))⟩
theorem sum_at {k:Nat} {ws:List Int} (hwk:ws.length = k) (z:Nat) (hz:z < k) (hb:∀ q ∈ ws,0 ≤ q ∧ q ≤ 64):∃ q:Int,ws.getD z 0 = q ∧ 0 ≤ q ∧ q ≤ 64 ∧ ∀ acc:Int,((ws ++ [acc]).map (Value.int .i64))[z]? = some (.int .i64 q):=by
 have hz2:z < ws.length:=by omega
 refine ⟨ws[z],by simp [List.getD_eq_getElem?_getD,hz2],(hb _ (List.getElem_mem hz2)).1,(hb _ (List.getElem_mem hz2)).2,fun acc => ?_⟩
 rw [List.map_append,List.getElem?_append_left (by simpa using hz2)]
 simp [hz2]
theorem at_end {k:Nat} {ws:List Int} (hwk:ws.length = k) (acc:Int):((ws ++ [acc]).map (Value.int .i64))[k]? = some (.int .i64 acc):=by
 subst hwk
 simp
structure M3Rel (y:Nd) (job node:Array Value) (w:World) (bN g k capg:Nat) (ws:List Int) (acc:Int) (wi:World):Prop where
 below:Below w.heap.size w wi
 job:Blk wi w.heap.size 26 job
 node:Blk wi bN 181 node
 own:wi.ownsRow (w.heap.size + 1) 3 1 (.slice (some ⟨g,0,none⟩) (k + 1) capg) (k + 1) ((ws ++ [acc]).map (Value.int .i64))
theorem M3Rel.drew {y:Nd} {job node:Array Value} {w wi:World} {bN g k capg:Nat} {ws:List Int} {acc:Int} (h:M3Rel y job node w bN g k capg ws acc wi):M3Rel y job node w bN g k capg ws acc wi.drew:=⟨h.below.drew,h.job,h.node,h.own⟩
theorem M3Rel.keep {y:Nd} {job node:Array Value} {w wi wj:World} {bN g k capg:Nat} {ws:List Int} {acc:Int} (h:M3Rel y job node w bN g k capg ws acc wi) (hb:Below wi.heap.size wi wj):M3Rel y job node w bN g k capg ws acc wj :=
 ⟨h.below.trans (hb.mono h.below.size),h.job.below hb h.job.lt,h.node.below hb h.node.lt,own_keep h.own hb⟩
theorem M3Rel.set {y:Nd} {job node:Array Value} {w wi:World} {bN g k capg:Nat} {ws:List Int} {acc:Int} (h:M3Rel y job node w bN g k capg ws acc wi) (hk:ws.length = k) (u:Int) :
  M3Rel y job node w bN g k capg ws u (wi.setCell ⟨g,k,none⟩ (.int .i64 u)):=by
 have h1:=own_ne h.own h.node (by decide)
 have h2:=(own_cells h.own).1
 refine ⟨h.below.setCell (by show _ ≤ g; omega) _,h.job.other (p:=⟨g,k,none⟩) (by show _ ≠ g; omega) _,h.node.other (p:=⟨g,k,none⟩) (fun e => h1 e.symm) _, ?_⟩
 have:=own_set h.own k (.int .i64 u)
 rw [List.map_append,List.map_cons,List.map_nil,List.set_append_right _ _ (by simp [hk])] at this
 rw [List.map_append,List.map_cons,List.map_nil]
 simpa [hk] using this
structure M1Rel (l:List Nd) (par:Int) (a:Option Addr) (cap:Nat) (w:World) (s q:Value) (wr:World):Prop where
 ex:∃ (k:Nat) (us:List ByteArray),q = .int .i64 k ∧ k ≤ l.length ∧ Below w.heap.size w wr ∧ Blk wr w.heap.size 26 #[.int .i64 par, .slice a l.length cap] ∧
  wr.ownsRow (w.heap.size + 1) 9 1 s us.length (us.map Value.string) ∧ us.length = k ∧ st1 (l.drop k) k us = st1 l 0 []
structure M2Rel (jb:Jb) (l:List Nd) (par:Int) (a:Option Addr) (cap:Nat) (w:World) (s8 s9 q:Value) (wr:World):Prop where
 ex:∃ (k:Nat) (f:Int) (ws:List Int),q = .int .i64 k ∧ k ≤ l.length ∧ s8 = .int .i64 f ∧ 0 ≤ f ∧ f ≤ 2 ∧ Below w.heap.size w wr ∧ Blk wr w.heap.size 26 #[.int .i64 par, .slice a l.length cap] ∧
  wr.ownsRow (w.heap.size + 1) 3 1 s9 k (ws.map (Value.int .i64)) ∧ ws.length = k ∧ (∀ z ∈ ws,0 ≤ z ∧ z ≤ 64) ∧ st2 jb (l.drop k) k f ws = st2 jb l 0 0 []
set_option maxRecDepth 100000 in
set_option maxHeartbeats 4000000 in
theorem May_c1 (jb:Jb) (v:Value) (B:Nat) (w:World) (hv:JbAt w B v jb) (hB:B ≤ w.heap.size) :
  Calls Tryz.prog 64 #[v] w fun e w' => e = .returned (.tuple #[.int .i64 jb.may.1, .int .i64 jb.may.2]) ∧ Below w.heap.size w w':=by
 obtain ⟨i0,hi,hz0,hz1,hz2⟩:=info_parts info_strJ
 obtain ⟨j0,ki,kz0,kz1,kz2⟩:=info_parts info_intJ
 have hv2:=hv
 obtain ⟨sv,rfl,hs⟩:=hv
 obtain ⟨a,cap,rfl,hcap,hmx⟩:=hs.slice
 have hlm:jb.nodes.length ≤ 9223372036854775807:=by unfold maxLen at hmx; omega
 have HS:=Lib.hid hs
 have HJ:=Lib.hid hv2
 have HM:Hid (jb.may = if jb.argB = true then (0,2) else match st1 jb.nodes 0 [] with
  | some r => r
  | none => match st2 jb jb.nodes 0 0 [] with
   | some r => r
   | none => (0,0)):=rfl
 have hcs:=argB_cases jb
 have hNJ:=Blk.new w #[.int .i64 jb.par, .slice a jb.nodes.length cap] 26
 have hW:=(Below.refl w.heap.size w).alloc (Nat.le_refl _) (.cells #[.int .i64 jb.par, .slice a jb.nodes.length cap] 26)
 clear hs hv2
 rcases hcs with ⟨hr,hc⟩ | ⟨hr,hc1,hc2,hc3,hc4,hc5⟩
 ·have HM2:Hid (jb.may = (0,2)):=by show _ = _; rw [HM.out,if_pos hr]
  clear hr HM
  rcases hc with h1 | ⟨h1,h2⟩ | ⟨h1,h2,h3⟩ | ⟨h1,h2,h3,h4⟩ | ⟨h1,h2,h3,h4,h5⟩
  all_goals
   go_enter Tryz.func64,Tryz.ntmps64
   go_wp2_with (go_at_call 118; refine (parts_c jb _ _ _ (HJ.out.keep (hW.mono hB)) (by have:=hW.size; omega)).mono ?_; rintro e w1 ⟨rfl,hb1⟩)
   go_ret2
   first
   | exact ⟨by rw [HM2.out]; rfl,hW⟩
   | exact ⟨by rw [HM2.out]; rfl,hW.trans (hb1.mono hW.size)⟩
 ·have HM2:Hid (jb.may = match st1 jb.nodes 0 [] with
   | some r => r
   | none => match st2 jb jb.nodes 0 0 [] with
    | some r => r
    | none => (0,0)):=by show _ = _; rw [HM.out,if_neg (by rw [hr]; simp)]
  clear hr HM
  have HNM:Hid (∀ i (h:i < jb.nodes.length),st1 jb.nodes 0 [] = none → nodeB (jb.nodes[i]'h) (i:Int) = true):=fun i h h' => by have:=st1_node jb.nodes 0 [] h' i h; simpa using this
  have HRD:Hid (∀ (at_:Int) (v:Value) (B:Nat) (w:World) (hv:JbAt w B v jb) (hB:B ≤ w.heap.size),Calls Tryz.prog 121 #[v, .int .i64 at_] w fun e w' => ∃ v',e = .returned v' ∧ Sl w' w'.heap.size 1 v' (jb.readers at_).length ((jb.readers at_).map (Value.int .i64)) ∧ Below w.heap.size w w') :=
   fun at_ v B w hv hB => readers_c jb at_ v B w hv hB (by omega)
  have HBC:=Lib.hid (badB_cases jb)
  have hrl:Hid (∀ at_,(jb.readers at_).length ≤ jb.nodes.length):=fun at_ => by
   unfold Jb.readers
   have:∀ (l:List Nd) (k:Nat),(readersGo at_ l k).length ≤ l.length:=by
    intro l
    induction l with
    | nil => simp [readersGo]
    | cons d l ih =>
     intro k
     simp only [readersGo]
     cases d.ins.any (fun y => at_ == y)
     ·have:=ih (k + 1); simp only [cond_false,List.length_cons]; omega
     ·have:=ih (k + 1); simp only [cond_true,List.length_cons]; omega
   exact this _ _
  generalize hl:jb.nodes = l at *
  have HL:=Lib.hid hl
  generalize jb.par = par at *
  generalize hmay:jb.may = mm at *
  have hW1:w.heap.size + 1 ≤ (w.alloc (.cells #[.int .i64 par, .slice a l.length cap] 26)).heap.size:=by simp
  clear hl hmay
  have hc2b : ¬ 4 < par:=by omega
  go_enter Tryz.func64,Tryz.ntmps64
  go_upto_region 4 with (go_at_call 118; refine (parts_c jb _ _ _ (HJ.out.keep (hW.mono hB)) (by have:=hW.size; omega)).mono ?_; rintro e w1 ⟨rfl,hb1⟩; have hJ1:=hNJ.below hb1 hNJ.lt; have g0:=hJ1.cell 0; have g1:=hJ1.cell 1)
  have hB1:=hW.trans (hb1.mono hW.size)
  have hz1':=hb1.size
  clear hb1 hNJ hW hc5
  go_wp2_with fail
  go_loopw [5,43] (fun s q wr => M1Rel l par a cap w s q wr) (fun _ q _ => l.length - (intOf q).toNat)
  case atStart => exact ⟨⟨0,[],rfl,Nat.zero_le _,hB1,hJ1,World.ownsRow_nil _ _ _ _,rfl,rfl⟩⟩
  case round =>
   obtain ⟨k,us,rfl,hk,hBr,hJr,hown,huk,hr⟩:=hrel.ex
   clear hrel g0 g1 hJ1 hB1 hz1'
   have hbw:w.heap.size + 1 ≤ wr.heap.size:=hJr.lt
   by_cases hlt:k < l.length
   ·skip
    obtain ⟨b,off,cp,e1,hb,hu,iv,sv,c0,c1,c2,c3,c4,c5,c6,hin⟩:=((HS.out.mono hB).keep hBr).at_ k hlt
    simp only [Value.slice.injEq,true_and] at e1
    obtain ⟨rfl,rfl⟩:=e1
    obtain ⟨a2,cap2,rfl,_,_⟩:=hin.2.slice
    obtain ⟨_,ai,capi,rfl,_,hcm,_⟩:=id hin.1
    rw [List.drop_eq_getElem_cons hlt] at hr
    simp only [st1] at hr
    generalize l[k] = y at *
    have HNY:Hid (NdAt wr w.heap.size (.agg #[.string y.uid, .int .u8 y.kind, .slice ai y.ins.length capi, .int .u8 y.x.op, .int .i64 y.x.n, .slice a2 y.x.args.length cap2, .int .i64 y.n]) y):=⟨_,_,rfl,hin,hu⟩
    have HR:=Lib.hid hr
    rename_i hx1 hx2 hx3
    clear hr hin hx1 hx2 hx3 hu
    have hBn:=hBr.alloc (by omega) (.cells #[.string y.uid, .int .u8 y.kind, .slice ai y.ins.length capi, .int .u8 y.x.op, .int .i64 y.x.n, .slice a2 y.x.args.length cap2, .int .i64 y.n] 181)
    have hJn:=hJr.alloc (.cells #[.string y.uid, .int .u8 y.kind, .slice ai y.ins.length capi, .int .u8 y.x.op, .int .i64 y.x.n, .slice a2 y.x.args.length cap2, .int .i64 y.n] 181)
    have hNn:=Blk.new wr #[.string y.uid, .int .u8 y.kind, .slice ai y.ins.length capi, .int .u8 y.x.op, .int .i64 y.x.n, .slice a2 y.x.args.length cap2, .int .i64 y.n] 181
    have hon:=hown.alloc (.cells #[.string y.uid, .int .u8 y.kind, .slice ai y.ins.length capi, .int .u8 y.x.op, .int .i64 y.x.n, .slice a2 y.x.args.length cap2, .int .i64 y.n] 181)
    have HNY2:Hid (NdAt (wr.alloc (.cells #[.string y.uid, .int .u8 y.kind, .slice ai y.ins.length capi, .int .u8 y.x.op, .int .i64 y.x.n, .slice a2 y.x.args.length cap2, .int .i64 y.n] 181)) (wr.alloc (.cells #[.string y.uid, .int .u8 y.kind, .slice ai y.ins.length capi, .int .u8 y.x.op, .int .i64 y.x.n, .slice a2 y.x.args.length cap2, .int .i64 y.n] 181)).heap.size (.agg #[.string y.uid, .int .u8 y.kind, .slice ai y.ins.length capi, .int .u8 y.x.op, .int .i64 y.x.n, .slice a2 y.x.args.length cap2, .int .i64 y.n]) y):=(HNY.out.keep ((Below.refl _ _).alloc (by omega) _)).mono (by simp; omega)
    have hbz:wr.heap.size < (wr.alloc (.cells #[.string y.uid, .int .u8 y.kind, .slice ai y.ins.length capi, .int .u8 y.x.op, .int .i64 y.x.n, .slice a2 y.x.args.length cap2, .int .i64 y.n] 181)).heap.size:=by simp
    cases hnb:nodeB y (k:Int)
    ·have HB:=Lib.hid hnb
     clear hnb
     go_wp2_with fail
     generalize World.alloc wr _ = W at *
     have n0:=hNn.cell 0
     have n1:=hNn.cell 1
     have n2:=hNn.cell 2
     have n3:=hNn.cell 3
     have n4:=hNn.cell 4
     have n5:=hNn.cell 5
     have n6:=hNn.cell 6
     go_wp2_with (go_at_call 119; refine (jobmay_c y (k:Int) _ _ _ HNY2.out (Nat.le_refl _)).mono ?_; rintro e w2 ⟨rfl,hb2⟩; rw [HB.out])
     go_ret2
     refine ⟨?_,hBn.trans (hb2.mono hBn.size)⟩
     rw [HM2.out, ← HR.out,HB.out]
     rfl
    ·have HB:=Lib.hid hnb
     clear hnb
     cases htw:twiceB (fun x z => decide (x = z)) (us ++ [y.uid])
     all_goals
      have HTW:=Lib.hid htw
      clear htw
      go_wp2_with fail
      generalize World.alloc wr _ = W at *
      have n0:=hNn.cell 0
      have n1:=hNn.cell 1
      have n2:=hNn.cell 2
      have n3:=hNn.cell 3
      have n4:=hNn.cell 4
      have n5:=hNn.cell 5
      have n6:=hNn.cell 6
      go_upto_region 10 with (go_at_call 119; refine (jobmay_c y (k:Int) _ _ _ HNY2.out (Nat.le_refl _)).mono ?_; rintro e w2 ⟨rfl,hb2⟩; rw [HB.out])
      have hNn2:=hNn.below hb2 hNn.lt
      have hJn2:=hJn.below hb2 hJn.lt
      have hBn2:=hBn.trans (hb2.mono hBn.size)
      have hon2:w2.ownsRow (w.heap.size + 1) 9 1 u5 us.length (us.map Value.string):=hon.kept (row:=none) ⟨hb2.os,hb2.tape,hb2.output,hb2.size,fun k hk _ => hb2.block k hk⟩ (by cases hv:u5.ownBlock <;> simp)
      have hzw2:w.heap.size + 1 ≤ w2.heap.size:=hJn2.lt
      clear n0 n1 n2 n3 n4 n5 n6 hNn hJn hBn hon hb2 HNY HNY2
      have m0:=hNn2.cell 0
      have hul:us.length + 1 ≤ 1000:=by omega
      have HUK:=Lib.hid huk
      clear huk
      go_upto_region 11 with (at_builtin; refine wpList_append_own _ rfl (.tmp 53) (.tmp 56) 155 rfl (w.heap.size + 1) 9 i0 (.string { data:=#[] }) 1 16 Tryz.underlying155 hi hz0 hz1 hz2 rfl (by decide) u5 us.length (us.map Value.string) rfl (hon2.alloc _) ⟨w2.heap.size,0,none⟩ 1 1 [.string y.uid] rfl rfl (cell_one_newJ _ _ _) (by simp [Value.oneCell']) (by unfold maxLen; omega) (by omega) (by simp; omega) ?_; intro v1' w3 hown3 hgrow3 _)
      have hb3:∀ k,u5.ownBlock = some k → w.heap.size + 1 ≤ k:=fun k hk => (hon2.lt k hk).1
      have hB3:Below w.heap.size w w3:=(hBn2.alloc (by omega) _).grown hgrow3 (by simp; omega) (fun k hk => by have:=hb3 k hk; omega)
      have hJ3:Blk w3 w.heap.size _ _:=(hJn2.alloc _).grown hgrow3 (fun e => by have:=hb3 _ e.symm; omega)
      have HO3:Hid (w3.ownsRow (w.heap.size + 1) 9 1 v1' (us ++ [y.uid]).length ((us ++ [y.uid]).map Value.string)):=by simpa [Hid] using hown3
      clear hgrow3 m0 hown3 hon2 hNn2
      go_wp2_with (go_at_call 120; refine (twiceStr_c (us ++ [y.uid]) _ _ _ _ (Sl.of_owns HO3.out) rfl).mono ?_; rintro e w4 ⟨rfl,rfl⟩; rw [HTW.out])
     ·go_roundw
      case rel => exact ⟨⟨k + 1,us ++ [y.uid],by go_num,by omega,hB3,hJ3,HO3.out,by have:=HUK.out; simp; omega,by rw [← HR.out,HB.out,HTW.out]; rfl⟩⟩
      case measure => simp [intOf]; omega
     ·go_ret2
      refine ⟨?_,hB3⟩
      rw [HM2.out, ← HR.out,HB.out,HTW.out]
      rfl
   ·rw [List.drop_of_length_le (by omega)] at hr
    simp only [st1] at hr
    have hrs:=hr.symm
    have HM3:Hid (mm = match st2 jb l 0 0 [] with
     | some r => r
     | none => (0,0)):=by show _ = _; rw [HM2.out,hrs]
    have HNB:Hid (∀ i (h:i < l.length),nodeB (l[i]'h) (i:Int) = true):=fun i h => HNM.out i h hrs
    have g1:=hJr.cell 1
    clear hr hrs HM2 HNM hown
    go_wp2_with fail
    clear g1
    obtain ⟨wo,rfl⟩:∃ wo:World,wo = wr:=⟨_,rfl⟩
    go_loopw [8,9,65] (fun s8 s9 q wr => M2Rel jb l par a cap w s8 s9 q wr) (fun _ _ q _ => l.length - (intOf q).toNat)
    case atStart => exact ⟨⟨0,0,[],rfl,Nat.zero_le _,rfl,by omega,by omega,hBr,hJr,World.ownsRow_nil _ _ _ _,rfl,by simp,rfl⟩⟩
    case round =>
     clear hbw hJr hBr hlt hk huk
     obtain ⟨k,f,ws,rfl,hk,rfl,hf0,hf2,hBr,hJr,hown,hwk,hwb,hr⟩:=hrel.ex
     clear hrel
     have hbw:w.heap.size + 1 ≤ wr.heap.size:=hJr.lt
     by_cases hlt:k < l.length
     ·obtain ⟨b,off,cp,e1,hb,hu,iv,sv,c0,c1,c2,c3,c4,c5,c6,hin⟩:=((HS.out.mono hB).keep hBr).at_ k hlt
      simp only [Value.slice.injEq,true_and] at e1
      obtain ⟨rfl,rfl⟩:=e1
      obtain ⟨a2,cap2,rfl,_,_⟩:=hin.2.slice
      obtain ⟨_,ai,capi,rfl,_,hcm,_⟩:=id hin.1
      rw [List.drop_eq_getElem_cons hlt] at hr
      simp only [st2] at hr
      have hnd:=nodeB_in _ _ (HNB.out k hlt)
      generalize l[k] = y at *
      have HSL:=Lib.hid hin.1
      have HR:=Lib.hid hr
      have HND:=Lib.hid hnd
      have hil:y.ins.length ≤ 3:=hnd.1
      rename_i hx1 hx2 hx3
      clear hr hin hx1 hx2 hx3 hu hnd
      have hBn:=hBr.alloc (by omega) (.cells #[.string y.uid, .int .u8 y.kind, .slice ai y.ins.length capi, .int .u8 y.x.op, .int .i64 y.x.n, .slice a2 y.x.args.length cap2, .int .i64 y.n] 181)
      have hJn:=hJr.alloc (.cells #[.string y.uid, .int .u8 y.kind, .slice ai y.ins.length capi, .int .u8 y.x.op, .int .i64 y.x.n, .slice a2 y.x.args.length cap2, .int .i64 y.n] 181)
      have hNn:=Blk.new wr #[.string y.uid, .int .u8 y.kind, .slice ai y.ins.length capi, .int .u8 y.x.op, .int .i64 y.x.n, .slice a2 y.x.args.length cap2, .int .i64 y.n] 181
      have hon:=hown.alloc (.cells #[.string y.uid, .int .u8 y.kind, .slice ai y.ins.length capi, .int .u8 y.x.op, .int .i64 y.x.n, .slice a2 y.x.args.length cap2, .int .i64 y.n] 181)
      have hown_lt:∀ q,u9.ownBlock = some q → w.heap.size + 1 ≤ q ∧ q < wr.heap.size:=fun q hq => ⟨(hown.lt q hq).1,(hown.lt q hq).2⟩
      have hbz:wr.heap.size + 1 = (wr.alloc (.cells #[.string y.uid, .int .u8 y.kind, .slice ai y.ins.length capi, .int .u8 y.x.op, .int .i64 y.x.n, .slice a2 y.x.args.length cap2, .int .i64 y.n] 181)).heap.size:=by simp
      have HWK:=Lib.hid hwk
      have hkw:k ≤ 100:=by omega
      clear hwk
      go_upto_region 19 with fail
      generalize World.alloc wr _ = W at *
      have hbz2:wr.heap.size + 1 ≤ W.heap.size:=by omega
      clear hbz
      go_upto_region 20 with (at_builtin; refine wpList_append_own _ rfl (.tmp 70) (.tmp 71) 176 rfl (w.heap.size + 1) 3 j0 (.int .i64 0) 1 8 Tryz.underlying176 ki kz0 kz1 kz2 rfl (by decide) u9 k (ws.map (Value.int .i64)) rfl (hon.alloc _) ⟨W.heap.size,0,none⟩ 1 1 [.int .i64 0] rfl rfl (cell_one_newJ _ _ _) (by simp [Value.oneCell']) (by unfold maxLen; omega) (by omega) (by simp; omega) ?_; intro v1' w3 hown3 hgrow3 _)
      have hM3:∃ g capg,v1' = .slice (some ⟨g,0,none⟩) (k + 1) capg ∧ M3Rel y #[.int .i64 par, .slice (some ⟨b,off,none⟩) l.length cap] #[.string y.uid, .int .u8 y.kind, .slice ai y.ins.length capi, .int .u8 y.x.op, .int .i64 y.x.n, .slice a2 y.x.args.length cap2, .int .i64 y.n] w wr.heap.size g k capg ws 0 w3:=by
       obtain ⟨g,capg,hv1⟩:=owns_succ hown3
       refine ⟨g,capg,hv1,(hBn.alloc (by omega) _).grown hgrow3 (by simp; omega) (fun q hq => by have:=(hown_lt q hq).1; omega),(hJn.alloc _).grown hgrow3 (fun e => by have:=(hown_lt _ e.symm).1; omega),(hNn.alloc _).grown hgrow3 (fun e => by have:=(hown_lt _ e.symm).2; omega), ?_⟩
       rw [hv1] at hown3
       simpa using hown3
      obtain ⟨g,capg,rfl,hM⟩:=hM3
      have HSL2:Hid (∀ wi,Below w.heap.size w wi → Sl wi w.heap.size 1 (.slice ai y.ins.length capi) y.ins.length (y.ins.map (Value.int .i64))):=fun wi hwi => HSL.out.across hBr hwi
      have hbN:wr.heap.size < w3.heap.size:=hM.node.lt
      generalize wr.heap.size = bN at *
      clear hBn hJn hNn hon hown hown3 hgrow3 hown_lt HSL hBr hJr hbz2 hbw hbN
      have k2':=hM.node.cell 2
      go_wp2_with fail
      clear k2'
      obtain ⟨wn,rfl⟩:∃ wn:World,wn = wr:=⟨_,rfl⟩
      go_loopw [76] (fun q wi => ∃ (m:Nat) (acc:Int),q = .int .i64 m ∧ m ≤ y.ins.length ∧ 0 ≤ acc ∧ acc ≤ 64 * m ∧ M3Rel y #[.int .i64 par, .slice (some ⟨b,off,none⟩) l.length cap] #[.string y.uid, .int .u8 y.kind, .slice ai y.ins.length capi, .int .u8 y.x.op, .int .i64 y.x.n, .slice a2 y.x.args.length cap2, .int .i64 y.n] w bN g k capg ws acc wi ∧ acc + sumW ws (y.ins.drop m) = sumW ws y.ins) (fun q _ => y.ins.length - (intOf q).toNat)
      case atStart => exact ⟨0,0,rfl,Nat.zero_le _,by omega,by omega,hM,by simp⟩
      case round =>
       obtain ⟨m,acc,rfl,hm,ha1,ha2,hMi,hsum⟩:=hrel
       by_cases hlt2:m < y.ins.length
       ·obtain ⟨bi,oi,ci,e2,hbi,g1,p0⟩:=(HSL2.out _ hMi.below).int m hlt2
        simp only [Value.slice.injEq,true_and] at e2
        obtain ⟨rfl,rfl⟩:=e2
        have hzb:=HND.out.2.2.2 _ (List.getElem_mem g1)
        rw [List.drop_eq_getElem_cons g1] at hsum
        simp only [sumW] at hsum
        generalize y.ins[m] = z at *
        obtain ⟨zn,rfl⟩:∃ zn:Nat,z = zn:=⟨z.toNat,by omega⟩
        have hzk:zn < k:=by omega
        obtain ⟨q,hq1,hq2,hq3,hq4⟩:=sum_at HWK.out zn hzk hwb
        rw [Int.toNat_natCast,hq1] at hsum
        have HSUM:=Lib.hid hsum
        obtain ⟨og1,og2,og3⟩:=own_cells hMi.own
        have o1:=(og3 zn (by omega)).1.trans (hq4 acc)
        have o2:=(og3 k (by omega)).1.trans (at_end HWK.out acc)
        have o3:=(og3 k (by omega)).2
        have HMS:=Lib.hid (hMi.drew.set HWK.out (acc + q))
        have hacc:acc ≤ 1000:=by omega
        clear hsum hq1 hq4 hzb og3 hMi
        go_wp2_with fail
        go_region
        all_goals
         go_wp2_with fail
         go_roundw
         case rel => exact ⟨m + 1,acc + q,by go_num,by omega,by omega,by omega,HMS.out,by have:=HSUM.out; omega⟩
         case measure => simp [intOf]; omega
       ·rw [List.drop_of_length_le (by omega)] at hsum
        simp only [sumW,Int.add_zero] at hsum
        subst hsum
        have n1:=hMi.node.cell 1
        obtain ⟨og1,og2,og3⟩:=own_cells hMi.own
        have o2:=(og3 k (by omega)).1.trans (at_end HWK.out _)
        have o3:=(og3 k (by omega)).2
        have HMi:=Lib.hid hMi
        have hS:sumW ws y.ins ≤ 1000:=by omega
        have HWY:Hid (wayN y ws = if y.kind = 1 then 1 else if y.kind = 4 then sumW ws y.ins * 4 else sumW ws y.ins):=rfl
        have HFL:Hid (flatN y f = if y.kind = 4 then f + 1 else f):=rfl
        have hfl:0 ≤ flatN y f ∧ flatN y f ≤ 3:=by unfold flatN; split <;> omega
        have hwy:0 ≤ wayN y ws:=by
         unfold wayN
         repeat' split
         all_goals omega
        generalize wayN y ws = w1 at *
        generalize flatN y f = f1 at *
        generalize sumW ws y.ins = S at *
        obtain ⟨hfl0,hfl3⟩:=hfl
        clear hM hMi og3
        go_upto_block 6 with fail
        go_cut [8] (fun s8 wx => s8 = .int .i64 f1 ∧ M3Rel y #[.int .i64 par, .slice (some ⟨b,off,none⟩) l.length cap] #[.string y.uid, .int .u8 y.kind, .slice ai y.ins.length capi, .int .u8 y.x.op, .int .i64 y.x.n, .slice a2 y.x.args.length cap2, .int .i64 y.n] w bN g k capg ws w1 wx)
        case first =>
         by_cases h1:y.kind = 1
         ·have q1:(y.kind == 1) = true:=by simpa using h1
          have e1:Hid (w1 = 1 ∧ f1 = f):=⟨by rw [HWY.out,if_pos h1],by rw [HFL.out,if_neg (by omega)]⟩
          clear h1
          go_wp2_with fail
          go_meet
          rw [e1.out.1,e1.out.2]
          exact ⟨rfl,HMi.out.set HWK.out 1⟩
         ·have q1:(y.kind == 1) = false:=by simpa using h1
          by_cases h4:y.kind = 4
          ·have q4:(y.kind == 4) = true:=by simpa using h4
           have e1:Hid (w1 = S * 4 ∧ f1 = f + 1):=⟨by rw [HWY.out,if_neg h1,if_pos h4],by rw [HFL.out,if_pos h4]⟩
           clear h1 h4
           go_wp2_with fail
           go_meet
           rw [e1.out.1,e1.out.2]
           exact ⟨rfl,HMi.out.set HWK.out (S * 4)⟩
          ·have q4:(y.kind == 4) = false:=by simpa using h4
           have e1:Hid (w1 = S ∧ f1 = f):=⟨by rw [HWY.out,if_neg h1,if_neg h4],by rw [HFL.out,if_neg h4]⟩
           clear h1 h4
           go_wp2_with fail
           go_meet
           rw [e1.out.1,e1.out.2]
           exact ⟨rfl,HMi.out⟩
        case rest =>
         obtain ⟨rfl,hMc⟩:=hcut
         have j0:=hMc.job.cell 0
         have j1:=hMc.job.cell 1
         go_upto_region 32 with (go_at_call 121; refine (HRD.out (k:Int) _ w.heap.size _ ((HJ.out.keep (hMc.below.mono hB)).mono hB) hMc.below.size).mono ?_; rintro e w5 ⟨v5,rfl,hsl5,hb5⟩; obtain ⟨_,a5,cap5,rfl,hc5,hm5,_⟩:=hsl5)
         have hM5:=hMc.keep hb5
         have n1:=hM5.node.cell 1
         obtain ⟨og1,og2,og3⟩:=own_cells hM5.own
         have o2:=(og3 k (by omega)).1.trans (at_end HWK.out _)
         have HM5:=Lib.hid hM5
         have hbc:=HBC.out y k f1 w1
         have hrk:=hrl.out (k:Int)
         generalize (jb.readers (k:Int)).length = rr at *
         clear hM5 hMc og3 j0 j1
         rcases hbc with ⟨hbd,hc⟩ | ⟨hbd,h1,h2,h3,h4,h5,h6⟩
         ·have HBD:=Lib.hid hbd
          clear hbd
          rcases hc with h1 | ⟨h1,h2⟩ | ⟨h1,h2,h3⟩ | ⟨h1,h2,h3,h4⟩ | ⟨h1,h2,h3,h4,h5⟩ | ⟨h1,h2,h3,h4,h5,h6⟩
          ·have p1 : ¬ ((y.kind == 1) = ((k:Int) == 0)):=by simpa using h1
           clear h1
           go_wp2_with fail
           go_ret2
           refine ⟨?_,HM5.out.below⟩
           rw [HM3.out, ← HR.out,HBD.out]
           rfl
          ·have p1:(y.kind == 1) = ((k:Int) == 0):=by simpa using h1
           have p2 : ¬ ((y.kind == 9) = ((k:Int) == (l.length:Int) - 1)):=by simpa using h2
           clear h1 h2
           go_wp2_with fail
           go_ret2
           refine ⟨?_,HM5.out.below⟩
           rw [HM3.out, ← HR.out,HBD.out]
           rfl
          ·have p1:(y.kind == 1) = ((k:Int) == 0):=by simpa using h1
           have p2:(y.kind == 9) = ((k:Int) == (l.length:Int) - 1):=by simpa using h2
           have p3 : ¬ (((rr:Int) == 0) = ((k:Int) == (l.length:Int) - 1)):=by simpa using h3
           clear h1 h2 h3
           go_wp2_with fail
           go_ret2
           refine ⟨?_,HM5.out.below⟩
           rw [HM3.out, ← HR.out,HBD.out]
           rfl
          ·have p1:(y.kind == 1) = ((k:Int) == 0):=by simpa using h1
           have p2:(y.kind == 9) = ((k:Int) == (l.length:Int) - 1):=by simpa using h2
           have p3:((rr:Int) == 0) = ((k:Int) == (l.length:Int) - 1):=by simpa using h3
           clear h1 h2 h3
           go_wp2_with fail
           go_ret2
           refine ⟨?_,HM5.out.below⟩
           rw [HM3.out, ← HR.out,HBD.out]
           rfl
          ·have p1:(y.kind == 1) = ((k:Int) == 0):=by simpa using h1
           have p2:(y.kind == 9) = ((k:Int) == (l.length:Int) - 1):=by simpa using h2
           have p3:((rr:Int) == 0) = ((k:Int) == (l.length:Int) - 1):=by simpa using h3
           clear h1 h2 h3
           go_wp2_with fail
           go_ret2
           refine ⟨?_,HM5.out.below⟩
           rw [HM3.out, ← HR.out,HBD.out]
           rfl
          ·have p1:(y.kind == 1) = ((k:Int) == 0):=by simpa using h1
           have p2:(y.kind == 9) = ((k:Int) == (l.length:Int) - 1):=by simpa using h2
           have p3:((rr:Int) == 0) = ((k:Int) == (l.length:Int) - 1):=by simpa using h3
           clear h1 h2 h3
           go_wp2_with fail
           go_ret2
           refine ⟨?_,HM5.out.below⟩
           rw [HM3.out, ← HR.out,HBD.out]
           rfl
         ·have HBD:=Lib.hid hbd
          clear hbd
          have p1:(y.kind == 1) = ((k:Int) == 0):=by simpa using h1
          have p2:(y.kind == 9) = ((k:Int) == (l.length:Int) - 1):=by simpa using h2
          have p3:((rr:Int) == 0) = ((k:Int) == (l.length:Int) - 1):=by simpa using h3
          have hw64:w1 ≤ 64:=by simpa using h6
          have hf22:f1 ≤ 2:=by simpa using h5
          clear h1 h2 h3
          go_wp2_with fail
          go_roundw
          case rel =>
           refine ⟨⟨k + 1,f1,ws ++ [w1],by go_num,by omega,rfl,hfl0,hf22,HM5.out.below,HM5.out.job,HM5.out.own,by have:=HWK.out; simp; omega, ?_,by rw [← HR.out,HBD.out]; rfl⟩⟩
           intro q hq
           rcases List.mem_append.1 hq with hq | hq
           ·exact hwb q hq
           ·rw [List.mem_singleton.1 hq]; omega
          case measure => simp [intOf]; omega
     ·rw [List.drop_of_length_le (by omega)] at hr
      simp only [st2] at hr
      have hrs:=hr.symm
      have HM4:Hid (mm = (0,0)):=by show _ = _; rw [HM3.out,hrs]
      clear hr hrs HM3
      go_wp2_with fail
      go_ret2
      exact ⟨by rw [HM4.out]; rfl,hBr⟩
theorem may_len (jb:Jb) (h:jb.may.2 = 0):jb.argB = false:=by
 cases hb:jb.argB
 ·rfl
 ·unfold Jb.may at h
  rw [if_pos hb] at h
  simp at h
def sT:ByteArray:={ data:=#[116] }
theorem Sl.one {w:World} {b:Nat} {t:TypeId} {x:Value} (h:Blk w b t #[x]):Sl w w.heap.size 1 (.slice (some ⟨b,0,none⟩) 1 1) 1 [x] :=
 ⟨rfl,some ⟨b,0,none⟩,1,rfl,Nat.le_refl _,by decide, .inr ⟨b,0,rfl,h.lt,fun j hj => by rw [Nat.zero_add,h.cell j]; simp⟩⟩
def heavyGo:List Nd → Int → Bool
 | [],_ => false
 | d :: l,n => decide (40 < (d.ins.length:Int)) || (decide (1000 < (d.uid.size:Int)) || (decide (3000 < n + (d.x.size:Int)) || heavyGo l (n + (d.x.size:Int))))
def Jb.heavyB (j:Jb):Bool:=decide (40 < (j.nodes.length:Int)) || heavyGo j.nodes 0
set_option maxHeartbeats 1000000 in
theorem Heavy_c (jb:Jb) (v:Value) (B:Nat) (w:World) (hv:JbAt w B v jb) (hB:B ≤ w.heap.size) :
  Calls Tryz.prog 54 #[v] w fun e w' => e = .returned (.bool jb.heavyB) ∧ Below w.heap.size w w':=by
 obtain ⟨sv,rfl,hs⟩:=hv
 obtain ⟨a,cap,rfl,hcap,hmx⟩:=hs.slice
 have HS:=Lib.hid hs
 have hlm:jb.nodes.length ≤ 9223372036854775807:=by unfold maxLen at hmx; omega
 have HE:Hid (jb.heavyB = (decide (40 < (jb.nodes.length:Int)) || heavyGo jb.nodes 0)):=rfl
 generalize jb.heavyB = hv at *
 generalize jb.nodes = l at *
 generalize jb.par = par at *
 clear hs
 have hW:=(Below.refl w.heap.size w).alloc (Nat.le_refl _) (.cells #[.int .i64 par, .slice a l.length cap] 26)
 cases h40:decide (40 < (l.length:Int))
 ·have HE2:Hid (hv = heavyGo l 0):=by show _ = _; rw [HE.out,h40]; rfl
  have h40':l.length ≤ 40:=by have:=of_decide_eq_false h40; omega
  go_enter Tryz.func54,Tryz.ntmps54
  go_wp2_with fail
  generalize World.alloc w _ = W at *
  go_loopw [3,13] (fun s q wr => ∃ (k:Nat) (n:Int),q = .int .i64 k ∧ s = .int .i64 n ∧ k ≤ l.length ∧ 0 ≤ n ∧ n ≤ 3000 ∧ Below w.heap.size w wr ∧ heavyGo (l.drop k) n = heavyGo l 0) (fun _ q _ => l.length - (intOf q).toNat)
  case atStart => exact ⟨0,0,rfl,rfl,Nat.zero_le _,by omega,by omega,hW,rfl⟩
  case round =>
   obtain ⟨k,n,rfl,rfl,hk,hn0,hn1,hBr,hr⟩:=hrel
   by_cases hlt:k < l.length
   ·obtain ⟨b,off,cp,e1,hb,hu,iv,sv,c0,c1,c2,c3,c4,c5,c6,hin⟩:=((HS.out.mono hB).keep hBr).at_ k hlt
    simp only [Value.slice.injEq,true_and] at e1
    obtain ⟨rfl,rfl⟩:=e1
    obtain ⟨a2,cap2,rfl,_,_⟩:=hin.2.slice
    obtain ⟨_,ai,capi,rfl,_,_,_⟩:=id hin.1
    rw [List.drop_eq_getElem_cons hlt] at hr
    simp only [heavyGo] at hr
    have hx:∀ X,Below wr.heap.size wr X → ExAt X X.heap.size (.agg #[.int .u8 (l[k]'hlt).x.op, .int .i64 (l[k]'hlt).x.n, .slice a2 (l[k]'hlt).x.args.length cap2]) (l[k]'hlt).x:=fun X hX => ⟨_,rfl,(hin.2.keep (hX.mono hBr.size)).mono (Nat.le_trans hBr.size hX.size)⟩
    have hsz:=Ex.size_le (l[k]'hlt).x
    generalize l[k] = y at *
    have HX:=Lib.hid hx
    have HR:=Lib.hid hr
    rename_i hx1 hx2 hx3
    clear hr hin hx hx1 hx2 hx3
    have hbw:w.heap.size ≤ wr.heap.size:=hBr.size
    have hNn:=Blk.new wr #[.string y.uid, .int .u8 y.kind, .slice ai y.ins.length capi, .int .u8 y.x.op, .int .i64 y.x.n, .slice a2 y.x.args.length cap2, .int .i64 y.n] 181
    have hBn:=hBr.alloc hbw (.cells #[.string y.uid, .int .u8 y.kind, .slice ai y.ins.length capi, .int .u8 y.x.op, .int .i64 y.x.n, .slice a2 y.x.args.length cap2, .int .i64 y.n] 181)
    have hX2:=Lib.hid (HX.out _ ((Below.refl _ _).alloc (Nat.le_refl _) (.cells #[.string y.uid, .int .u8 y.kind, .slice ai y.ins.length capi, .int .u8 y.x.op, .int .i64 y.x.n, .slice a2 y.x.args.length cap2, .int .i64 y.n] 181)))
    generalize hzz:y.x.size = z at *
    have HZ:=Lib.hid hzz
    clear hzz
    have hcs:(decide (40 < (y.ins.length:Int)) = true) ∨ (decide (40 < (y.ins.length:Int)) = false ∧ decide (1000 < (y.uid.size:Int)) = true) ∨ (decide (40 < (y.ins.length:Int)) = false ∧ decide (1000 < (y.uid.size:Int)) = false ∧ decide (3000 < n + (z:Int)) = true) ∨
      (decide (40 < (y.ins.length:Int)) = false ∧ decide (1000 < (y.uid.size:Int)) = false ∧ decide (3000 < n + (z:Int)) = false):=by
     cases decide (40 < (y.ins.length:Int)) <;> cases decide (1000 < (y.uid.size:Int)) <;> cases decide (3000 < n + (z:Int)) <;> simp
    rcases hcs with h1 | ⟨h1,h2⟩ | ⟨h1,h2,h3⟩ | ⟨h1,h2,h3⟩
    all_goals
     go_upto_region 7 with fail
     generalize World.alloc wr _ = W2 at *
     have n3:=hNn.cell 3
     have n4:=hNn.cell 4
     have n5:=hNn.cell 5
     go_wp2_with (go_at_call 114; refine (Size_c y.x _ _ _ hX2.out (Nat.le_refl _)).mono ?_; rintro e w3 ⟨rfl,hb3⟩; rw [HZ.out]; have hN3:=hNn.below hb3 hNn.lt; have m0:=hN3.cell 0; have m2:=hN3.cell 2)
    ·go_ret
     exact ⟨ret_bool (by rw [HE2.out, ← HR.out,h1]; rfl),hBn.trans (hb3.mono hBn.size)⟩
    ·go_ret
     exact ⟨ret_bool (by rw [HE2.out, ← HR.out,h1,h2]; rfl),hBn.trans (hb3.mono hBn.size)⟩
    ·go_ret
     exact ⟨ret_bool (by rw [HE2.out, ← HR.out,h1,h2,h3]; rfl),hBn.trans (hb3.mono hBn.size)⟩
    ·have h3':n + (z:Int) ≤ 3000:=by have:=of_decide_eq_false h3; omega
     go_roundw
     case rel => exact ⟨k + 1,n + (z:Int),by go_num,rfl,by omega,by omega,h3',hBn.trans (hb3.mono hBn.size),by rw [← HR.out,h1,h2,h3]; rfl⟩
     case measure => simp [intOf]; omega
   ·rw [List.drop_of_length_le (by omega)] at hr
    have HR:=Lib.hid hr
    clear hr
    go_wp2
    go_ret
    exact ⟨ret_bool (by rw [HE2.out, ← HR.out]; rfl),hBr⟩
 ·have HE2:Hid (hv = true):=by show _ = _; rw [HE.out,h40]; rfl
  go_enter Tryz.func54,Tryz.ntmps54
  go_wp2
  go_ret
  exact ⟨ret_bool HE2.out.symm,hW⟩

end Go.Proofs.YtpkijdkoiecpiaaGreatDoor
