/-
  Parts of the proof: E7.
-/
import Derived.Deep.DrawnRows
import Derived.Test.YtpkijdkoiecpiaaGreatDoorZS12
namespace Go.Proofs.YtpkijdkoiecpiaaGreatDoor
open Go.RowKit
set_option linter.unusedVariables false
set_option linter.unusedSimpArgs false
attribute [local go_sem ↓] Go.wp_at_zero Go.wp_at_succ
def sgOf:Nat → List (ByteArray × Int)
 | 0 => [({ data:=#[124] },17)]
 | 1 => [({ data:=#[38] },16)]
 | 2 => [({ data:=#[60] },12),({ data:=#[60,61] },13),({ data:=#[61] },14),({ data:=#[33,61] },15)]
 | 3 => [({ data:=#[43] },7),({ data:=#[45] },8)]
 | _ => [({ data:=#[42] },9),({ data:=#[47] },10),({ data:=#[37] },11)]
def sgList (sg:List (ByteArray × Int)):List (List UInt8 × Int):=sg.map fun p => (p.1.toList,p.2)
theorem sg_0:sgList (sgOf 0) = lvSigns 0:=by kernel_rfl
theorem sg_1:sgList (sgOf 1) = lvSigns 1:=by kernel_rfl
theorem sg_2:sgList (sgOf 2) = lvSigns 2:=by kernel_rfl
theorem sg_3:sgList (sgOf 3) = lvSigns 3:=by kernel_rfl
theorem sg_4:sgList (sgOf 4) = lvSigns 4:=by kernel_rfl
theorem signOf_none {st:PSt}:∀ {sg:List (ByteArray × Int)},signOf st (sgList sg) = none → ∀ i (hi:i < sg.length),st.isB (sg[i]'hi).1.toList = false
 | [],_,i,hi => by simp at hi
 | (s,o) :: r,h,i,hi => by
  simp only [sgList,List.map_cons,signOf] at h
  split at h
  ·simp at h
  ·cases i with
   | zero => simpa using (by assumption : ¬ st.isB s.toList = true)
   | succ i => exact signOf_none (sg:=r) h i (by simpa using hi)
theorem signOf_some {st:PSt} {o:Int}:∀ {sg:List (ByteArray × Int)},signOf st (sgList sg) = some o → ∃ j,∃ hj:j < sg.length,(sg[j]'hj).2 = o ∧ (∀ i (hi:i < j),st.isB (sg[i]'(by omega)).1.toList = false) ∧ st.isB (sg[j]'hj).1.toList = true
 | [],h => by simp [sgList,signOf] at h
 | (s,o') :: r,h => by
  simp only [sgList,List.map_cons,signOf] at h
  split at h
  ·exact ⟨0,by simp,by simpa using h,fun i hi => by omega,by assumption⟩
  ·obtain ⟨j,hj,h1,h2,h3⟩:=signOf_some (sg:=r) h
   refine ⟨j + 1,by simp; omega,h1,fun i hi => ?_,h3⟩
   cases i with
   | zero => simpa using (by assumption : ¬ st.isB s.toList = true)
   | succ i => exact h2 i (by omega)
structure RowR (w wr:World) (br bx:Nat) (x:Ex) (sv:Value):Prop where
 box:Blk wr w.heap.size 343 #[.pointer (some ⟨br,0,none⟩)]
 res:Blk wr (w.heap.size + 1) 179 #[.int .u8 0, .int .i64 0, .slice none 0 0]
 cx:Blk wr bx 179 #[.int .u8 x.op, .int .i64 x.n,sv]
 args:ArgsIn wr (fun b => w.heap.size + 2 ≤ b ∧ b ≠ bx ∧ b < wr.heap.size) x.args sv
 low:w.heap.size + 2 ≤ bx
 fr:Fr (fun k => k = br) w wr
theorem RowR.step {w wr w2:World} {br bx:Nat} {x:Ex} {sv:Value} (h:RowR w wr br bx x sv) (hbr:br < w.heap.size) (hf:Fr (fun k => k = br) wr w2):RowR w w2 br bx x sv:=by
 have hlow:=h.low
 exact ⟨h.box.fr hf (by omega),h.res.fr hf (by omega),h.cx.fr hf (by omega),h.args.fr hf (fun b hb => ⟨hb.2.2,by omega⟩) (fun b hb => ⟨hb.1,hb.2.1,Nat.lt_of_lt_of_le hb.2.2 hf.size⟩),hlow,h.fr.trans hf⟩
theorem RowR.put {w w9:World} {br bx:Nat} {x y:Ex} {sv su:Value} {o:Int} (h:RowR w w9 br bx x sv) (hy:ArgsIn w9 (fun b => w.heap.size + 2 ≤ b ∧ b ≠ bx ∧ b < w9.heap.size) y.args su) (hbr:br < w.heap.size) {E:Int} {st:PSt} (hr:RdAt w9 br E st) :
  RowR w ((((w9.setCell ⟨bx,0,none⟩ (.int .u8 o)).setCell ⟨bx,1,none⟩ (.int .i64 0)).setCell ⟨bx,2,none⟩ (.slice (some ⟨w9.heap.size,0,none⟩) 2 2)).alloc (.cells #[.int .u8 x.op, .int .i64 x.n,sv, .int .u8 y.op, .int .i64 y.n,su] 179))
   br bx (.mk o 0 [x,y]) (.slice (some ⟨w9.heap.size,0,none⟩) 2 2) ∧
  RdAt ((((w9.setCell ⟨bx,0,none⟩ (.int .u8 o)).setCell ⟨bx,1,none⟩ (.int .i64 0)).setCell ⟨bx,2,none⟩ (.slice (some ⟨w9.heap.size,0,none⟩) 2 2)).alloc (.cells #[.int .u8 x.op, .int .i64 x.n,sv, .int .u8 y.op, .int .i64 y.n,su] 179)) br E st:=by
 have hlow:=h.low
 have hlt:=h.cx.lt
 have hF:Fr (fun k => k = bx) w9 ((((w9.setCell ⟨bx,0,none⟩ (.int .u8 o)).setCell ⟨bx,1,none⟩ (.int .i64 0)).setCell ⟨bx,2,none⟩ (.slice (some ⟨w9.heap.size,0,none⟩) 2 2)).alloc (.cells #[.int .u8 x.op, .int .i64 x.n,sv, .int .u8 y.op, .int .i64 y.n,su] 179)) :=
  ((((Fr.refl (fun k => k = bx) w9).setCell (p:=⟨bx,0,none⟩) (.inl rfl) _).setCell (p:=⟨bx,1,none⟩) (.inl rfl) _).setCell (p:=⟨bx,2,none⟩) (.inl rfl) _).alloc _
 have hN:=Blk.new_at (((w9.setCell ⟨bx,0,none⟩ (.int .u8 o)).setCell ⟨bx,1,none⟩ (.int .i64 0)).setCell ⟨bx,2,none⟩ (.slice (some ⟨w9.heap.size,0,none⟩) 2 2)) #[.int .u8 x.op, .int .i64 x.n,sv, .int .u8 y.op, .int .i64 y.n,su] 179 (k:=w9.heap.size) (by simp [World.setCell])
 have hC:=((((h.cx.set 0 (.int .u8 o)).set 1 (.int .i64 0)).set 2 (.slice (some ⟨w9.heap.size,0,none⟩) 2 2)).alloc (.cells #[.int .u8 x.op, .int .i64 x.n,sv, .int .u8 y.op, .int .i64 y.n,su] 179))
 have hfr:=(((h.fr.setCell (p:=⟨bx,0,none⟩) (.inr (by show _ ≤ bx; omega)) (.int .u8 o)).setCell (p:=⟨bx,1,none⟩) (.inr (by show _ ≤ bx; omega)) (.int .i64 0)).setCell (p:=⟨bx,2,none⟩) (.inr (by show _ ≤ bx; omega)) (.slice (some ⟨w9.heap.size,0,none⟩) 2 2)).alloc (.cells #[.int .u8 x.op, .int .i64 x.n,sv, .int .u8 y.op, .int .i64 y.n,su] 179)
 have hsz:w9.heap.size + 1 = ((((w9.setCell ⟨bx,0,none⟩ (.int .u8 o)).setCell ⟨bx,1,none⟩ (.int .i64 0)).setCell ⟨bx,2,none⟩ (.slice (some ⟨w9.heap.size,0,none⟩) 2 2)).alloc (.cells #[.int .u8 x.op, .int .i64 x.n,sv, .int .u8 y.op, .int .i64 y.n,su] 179)).heap.size:=by simp [World.setCell]
 generalize World.alloc _ _ = W at *
 refine ⟨⟨h.box.fr hF (by omega),h.res.fr hF (by omega),hC, ?_,hlow,hfr⟩,hr.fr hF (fun k hk => by omega)⟩
 refine ArgsIn.two hN ⟨by omega,by omega,by omega⟩ (h.args.fr hF (fun b hb => ⟨hb.2.2,hb.2.1⟩) (fun b hb => ⟨hb.1,hb.2.1,by omega⟩)) (hy.fr hF (fun b hb => ⟨hb.2.2,hb.2.1⟩) (fun b hb => ⟨hb.1,hb.2.1,by omega⟩))
theorem RowR.done {w wr:World} {br bx:Nat} {x:Ex} {sv:Value} {E:Int} {st:PSt} (h:RowR w wr br bx x sv) (hr:RdAt wr br E st) (hbr:br < w.heap.size) :
  PrPost w (fun w st => RdAt w br E st) br (x,st) (.returned (.agg #[.int .u8 x.op, .int .i64 x.n,sv])) (((wr.setCell ⟨w.heap.size + 1,0,none⟩ (.int .u8 x.op)).setCell ⟨w.heap.size + 1,1,none⟩ (.int .i64 x.n)).setCell ⟨w.heap.size + 1,2,none⟩ sv) ∧
   Blk (((wr.setCell ⟨w.heap.size + 1,0,none⟩ (.int .u8 x.op)).setCell ⟨w.heap.size + 1,1,none⟩ (.int .i64 x.n)).setCell ⟨w.heap.size + 1,2,none⟩ sv) (w.heap.size + 1) 179 #[.int .u8 x.op, .int .i64 x.n,sv] :=
 prPost_mk (fun w1 w2 h1 hf => h1.fr hf (fun k hk => by omega)) h.res rfl (by omega) (h.args.mono fun b hb => ⟨by omega,by omega,hb.2.2⟩) hr h.fr
theorem rowL_stop (one:PSt → Ex × PSt) (sg:List (List UInt8 × Int)) (c:Nat) (x:Ex) (st:PSt) (h:c = 0 ∨ st.bad.isSome = true ∨ signOf st sg = none):rowL one sg c x st = (x,st):=by
 cases c with
 | zero => rfl
 | succ c =>
  simp only [rowL]
  rcases h with h | h | h
  ·omega
  ·rw [if_pos h]
  ·split
   ·rfl
   ·rw [h]
theorem rowL_go (one:PSt → Ex × PSt) (sg:List (List UInt8 × Int)) (c:Nat) (x:Ex) (st:PSt) (o:Int) (h:st.bad.isSome = false) (ho:signOf st sg = some o):rowL one sg (c + 1) x st = rowL one sg c (.mk o 0 [x,(one st.next).1]) (one st.next).2:=by
 simp only [rowL]
 rw [h,ho]
 rfl
set_option maxRecDepth 100000 in
set_option maxHeartbeats 2000000 in
theorem row_c (g:FuncId) (eg:∀ args w,(callFunc g args).run Tryz.prog w = .ok (.enter g args) w) (f:PSt → Ex × PSt) (sg:List (ByteArray × Int)) (most:Nat) (hm:most ≤ 400) (br bs:Nat) (E:Int) (st:PSt) (w:World) (h:RdAt w br E st) (hs:SgAt w bs sg) (hbs:bs ≠ br) (hlen:Hid (∀ st,(f st).2.l.length ≤ st.l.length))
  (hone:Hid (∀ st' w',st'.l.length ≤ st.l.length → RdAt w' br E st' → Calls Tryz.prog g #[.pointer (some ⟨br,0,none⟩)] w' (PrPost w' (fun w st => RdAt w br E st) br (f st')))) :
  Calls Tryz.prog 286 #[.pointer (some ⟨br,0,none⟩), .func (.func g) #[.pointer (some ⟨br,0,none⟩)] #[], .int .i64 most, .slice (some ⟨bs,0,none⟩) sg.length sg.length] w
   (PrPost w (fun w st => RdAt w br E st) br (rowL f (sgList sg) most (f st).1 (f st).2)):=by
 have H:=Lib.hid h
 have HS:=Lib.hid hs
 have hlr:=h.lt
 have hls:=hs.1.lt
 have hN2:=hs.2
 obtain ⟨N,hN⟩:∃ N,sg.length = N:=⟨_,rfl⟩
 rw [hN] at hN2 ⊢
 have HN:=Lib.hid hN
 have hlN:=hlen.out st
 generalize hx0:(f st).1 = x0 at *
 generalize hst0:(f st).2 = st0 at *
 have HX0:=Lib.hid hx0
 have HST0:=Lib.hid hst0
 generalize htg:rowL f (sgList sg) most x0 st0 = target at *
 have HTG:=Lib.hid htg
 have hbox:=(Blk.new w #[.pointer (some ⟨br,0,none⟩)] 343).alloc (.cells #[.int .u8 0, .int .i64 0, .slice none 0 0] 179)
 have hres:=Blk.new_at (w.alloc (.cells #[.pointer (some ⟨br,0,none⟩)] 343)) #[.int .u8 0, .int .i64 0, .slice none 0 0] 179 (k:=w.heap.size + 1) (by simp)
 have hF0:=((Fr.refl (fun k => k = br) w).alloc (.cells #[.pointer (some ⟨br,0,none⟩)] 343)).alloc (.cells #[.int .u8 0, .int .i64 0, .slice none 0 0] 179)
 have hR0:=Lib.hid (h.keep (((Below.refl _ w).alloc (Nat.le_refl _) (.cells #[.pointer (some ⟨br,0,none⟩)] 343)).alloc (by simp) (.cells #[.int .u8 0, .int .i64 0, .slice none 0 0] 179)))
 have hsz0:((w.alloc (.cells #[.pointer (some ⟨br,0,none⟩)] 343)).alloc (.cells #[.int .u8 0, .int .i64 0, .slice none 0 0] 179)).heap.size = w.heap.size + 2:=by simp
 have HSZ0:=Lib.hid hsz0
 clear h hs hN hx0 hst0 htg hsz0
 go_enter Tryz.func286,Tryz.ntmps286
 go_wp2_with fail
 refine (hone.out st _ (Nat.le_refl _) hR0.out).mono ?_
 rintro e w1 ⟨_,rfl,ha1,hr1,hf1⟩
 obtain ⟨aa,an,ac,rfl⟩:=ha1.slice
 rw [HX0.out] at ha1 ⊢
 rw [HST0.out] at hr1
 have hlb:=hf1.size
 rw [HSZ0.out] at hlb
 have hbr1:br < w1.heap.size:=by omega
 go_upto_region 2 with fail
 have hRR:RowR w (w1.alloc (.cells #[.int .u8 x0.op, .int .i64 x0.n, .slice aa an ac] 179)) br w1.heap.size x0 (.slice aa an ac):=by
  have hfA:=hf1.alloc (.cells #[.int .u8 x0.op, .int .i64 x0.n, .slice aa an ac] 179)
  refine ⟨hbox.fr hfA (by omega),hres.fr hfA (by omega),Blk.new _ _ _, ?_,hlb,hF0.trans hfA⟩
  refine ha1.fr ((Fr.refl (fun k => k = br) w1).alloc _) (fun b hb => ⟨hb.2, ?_⟩) (fun b hb => ⟨?_, ?_, ?_⟩)
  ·have:=hb.1; rw [HSZ0.out] at this; omega
  ·have:=hb.1; rw [HSZ0.out] at this; omega
  ·omega
  ·simp; omega
 have hrd:=hr1.keep ((Below.refl _ w1).alloc (Nat.le_refl _) (.cells #[.int .u8 x0.op, .int .i64 x0.n, .slice aa an ac] 179))
 generalize hbx:w1.heap.size = bx at *
 generalize w1.alloc _ = W at *
 clear ha1 hr1 hf1 hR0 HSZ0 hF0 hres hbox hbx
 have HRR:=Lib.hid hRR
 have HRD:=Lib.hid hrd
 clear hRR hrd
 go_wp2_with fail
 go_loopw [10] (fun q wr => ∃ (k:Nat) (x:Ex) (s:PSt) (sv:Value),q = .int .i64 k ∧ k ≤ most ∧ RowR w wr br bx x sv ∧ RdAt wr br E s ∧ s.l.length ≤ st.l.length ∧ rowL f (sgList sg) (most - k) x s = target) (fun q _ => most - (intOf q).toNat)
 case atStart => exact ⟨0,x0,st0,_,rfl,Nat.zero_le _,HRR.out,HRD.out,hlN,HTG.out⟩
 case round =>
  obtain ⟨k,x,s,_,rfl,hk,hR,hD,hsl,hgo⟩:=hrel
  obtain ⟨va,vn,vc,rfl⟩:=hR.args.slice
  have HGO:=Lib.hid hgo
  have HR:=Lib.hid hR
  have HD:=Lib.hid hD
  clear hgo
  have b0:=hR.box.cell 0
  have x0:=hR.cx.cell 0
  have x1:=hR.cx.cell 1
  have x2:=hR.cx.cell 2
  have r0:=hR.res.cell 0
  have r1:=hR.res.cell 1
  have r2:=hR.res.cell 2
  have q0:=hR.res.free 0
  have q1:=hR.res.free 1
  have q2:=hR.res.free 2
  obtain ⟨v,a,hb,_,_⟩:=hD.ex
  have d2:=hb.cell 2
  have hlow:=hR.low
  by_cases hkm:k < most
  ·cases hbad:s.bad.isSome
   ·rw [hbad] at d2
    cases hso:signOf s (sgList sg) with
    | none =>
     have hst:=rowL_stop f (sgList sg) (most - k) x s (.inr (.inr hso))
     have HE:=Lib.hid (hst.symm.trans HGO.out)
     have HSO:=Lib.hid hso
     clear hR hD hb hst hso
     go_wp2_with (go_at_call 308; have hni:=idx_none br w.heap.size bs E s sg wr HD.out HR.out.box ⟨HS.out.1.fr HR.out.fr hbs,HS.out.2⟩ (by omega) hbs (signOf_none HSO.out); rw [HN.out] at hni; refine hni.mono ?_; clear hni; rintro e w2 ⟨rfl,h2,hf2⟩; have hR2:=HR.out.step hlr hf2; have y0:=hR2.cx.cell 0; have y1:=hR2.cx.cell 1; have y2:=hR2.cx.cell 2; have t0:=hR2.res.cell 0; have t1:=hR2.res.cell 1; have t2:=hR2.res.cell 2; have z0:=hR2.res.free 0; have z1:=hR2.res.free 1; have z2:=hR2.res.free 2)
     obtain ⟨p1,p2⟩:=hR2.done h2 hlr
     rw [← HE.out]
     refine bodyPost_ret (v := .agg #[.int .u8 x.op, .int .i64 x.n, .slice va vn vc]) (results_cell_row rfl _ _ (w.heap.size + 1) 179 _ (0,0) _ rfl p2 Tryz.underlying179 rfl ?_) rfl p1
     as_aux_lemma => kernel_rfl
    | some o =>
     obtain ⟨j,hj,ho,hno,hyes⟩:=signOf_some hso
     obtain ⟨m,hm1⟩:∃ m,most - k = m + 1:=⟨most - k - 1,by omega⟩
     have hgo2:=HGO.out
     rw [hm1,rowL_go f (sgList sg) m x s o hbad hso] at hgo2
     have HGO2:=Lib.hid hgo2
     have HM1:=Lib.hid hm1
     have HIDX:=Lib.hid (fun (h:RdAt wr br E s) (h1:SgAt wr bs sg) => idx_some br w.heap.size bs E s sg wr h HR.out.box h1 (by omega) hbs j hj hno hyes)
     have HNX:=Lib.hid (signOf_lt hso)
     have hjN:j < N:=by have:=HN.out; omega
     have HSG:=Lib.hid (HS.out.at_ j hj)
     generalize sg[j] = p at *
     obtain ⟨ps,po⟩:=p
     simp only at ho
     subst ho
     clear hR hD hb hso hgo2 hm1 hno hyes
     go_upto_region 8 with (go_at_call 308; have hni:=HIDX.out HD.out ⟨HS.out.1.fr HR.out.fr hbs,HS.out.2⟩; rw [HN.out] at hni; refine hni.mono ?_; clear hni; rintro e w2 ⟨rfl,h2,hf2⟩)
     have hR2:=HR.out.step hlr hf2
     have hfW:=HR.out.fr.trans hf2
     have hsg:=(World.cell?_of_block (hfW.block bs hls hbs)).trans HSG.out.2
     have y0:=hR2.cx.cell 0
     have y1:=hR2.cx.cell 1
     have y2:=hR2.cx.cell 2
     have HR2:=Lib.hid hR2
     have HD2:=Lib.hid h2
     have hjI:(j:Int) < (N:Int):=by omega
     have hls2:bs < w2.heap.size:=Nat.lt_of_lt_of_le hls hfW.size
     have hbx2:=hR2.cx.lt
     have hle2:s.next.l.length ≤ st.l.length:=by have:=HNX.out; omega
     clear hR2 h2 hf2 hfW b0 x0 x1 x2 r0 r1 r2 q0 q1 q2 d2 HIDX HSG
     go_region_with (refine (hone.out s.next _ hle2 (HD2.out.keep (Below.refl _ w2).drew)).mono ?_; rintro e w9 ⟨_,rfl,ha9,hr9,hf9⟩; obtain ⟨a9,n9,c9,rfl⟩:=ha9.slice; have hR9:=(RowR.step HR2.out hlr ((Fr.refl (fun k => k = br) w2).drew)).step hlr hf9; have z0:=hR9.cx.cell 0; have z1:=hR9.cx.cell 1; have z2:=hR9.cx.cell 2; have k0:=hR9.cx.free 0; have k1:=hR9.cx.free 1; have k2:=hR9.cx.free 2; have hbx9:=hR9.cx.lt; have hls9:bs < w9.heap.size:=Nat.lt_of_lt_of_le hls2 (by simpa using hf9.size); have hsg9:=(World.cell?_of_block (hf9.block bs (by simpa using hls2) hbs)).trans hsg)
     all_goals
      go_wp2_with fail
      go_roundw
      case rel =>
       have hs9:=hf9.size
       have hlow:=HR2.out.low
       have hs2:=HR2.out.fr.size
       have hq:=RowR.put (o:=po) hR9 (ha9.mono fun b hb => ⟨by have:=hb.1; simp at this; omega,by have:=hb.1; simp at this; omega,hb.2⟩) hlr hr9
       exact ⟨k + 1,_,_,_,by go_num,by omega,hq.1,hq.2,Nat.le_trans (hlen.out _) hle2,by rw [show most - (k + 1) = m by have:=HM1.out; omega]; exact HGO2.out⟩
      case measure => simp [intOf]; omega
   ·rw [hbad] at d2
    have hst:=rowL_stop f (sgList sg) (most - k) x s (.inr (.inl hbad))
    have HE:=Lib.hid (hst.symm.trans HGO.out)
    clear hR hD hb hst
    go_wp2_with fail
    obtain ⟨p1,p2⟩:=HR.out.done HD.out hlr
    rw [← HE.out]
    refine bodyPost_ret (v := .agg #[.int .u8 x.op, .int .i64 x.n, .slice va vn vc]) (results_cell_row rfl _ _ (w.heap.size + 1) 179 _ (0,0) _ rfl p2 Tryz.underlying179 rfl ?_) rfl p1
    as_aux_lemma => kernel_rfl
  ·have hst:=rowL_stop f (sgList sg) (most - k) x s (.inl (by omega))
   have HE:=Lib.hid (hst.symm.trans HGO.out)
   clear hR hD hb hst
   go_wp2_with fail
   obtain ⟨p1,p2⟩:=HR.out.done HD.out hlr
   rw [← HE.out]
   refine bodyPost_ret (v := .agg #[.int .u8 x.op, .int .i64 x.n, .slice va vn vc]) (results_cell_row rfl _ _ (w.heap.size + 1) 179 _ (0,0) _ rfl p2 Tryz.underlying179 rfl ?_) rfl p1
   as_aux_lemma => kernel_rfl
end Go.Proofs.YtpkijdkoiecpiaaGreatDoor
