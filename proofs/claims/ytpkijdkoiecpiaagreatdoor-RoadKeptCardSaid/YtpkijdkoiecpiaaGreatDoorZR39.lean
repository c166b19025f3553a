/-
  Parts of the proof: E8.
-/
import Derived.Shelf.Abstract
import Derived.Test.YtpkijdkoiecpiaaGreatDoorZR38
namespace Go.Proofs.YtpkijdkoiecpiaaGreatDoor
open Go.RowKit
set_option linter.unusedVariables false
set_option linter.unusedSimpArgs false
def PrC (g:FuncId) (br:Nat) (E:Int) (f:PSt → Ex × PSt) (n:Nat):Prop:=∀ st' w',st'.l.length ≤ n → RdAt w' br E st' → Calls Tryz.prog g #[.pointer (some ⟨br,0,none⟩)] w' (PrPost w' (fun w st => RdAt w br E st) br (f st'))
theorem prPost_pass {w w1:World} {br:Nat} {E:Int} {st:PSt} {x:Ex} {sv:Value} (B:Nat) (hbr:br < w.heap.size) (hB:w.heap.size < B) (h0:Blk w1 w.heap.size 179 #[.int .u8 0, .int .i64 0, .slice none 0 0])
  (ha:ArgsIn w1 (fun b => B ≤ b ∧ b < w1.heap.size) x.args sv) (hr:RdAt w1 br E st) (hf:Fr (fun k => k = br) w w1) :
  PrPost w (fun w st => RdAt w br E st) br (x,st) (.returned (.agg #[.int .u8 x.op, .int .i64 x.n,sv])) (((w1.setCell ⟨w.heap.size,0,none⟩ (.int .u8 x.op)).setCell ⟨w.heap.size,1,none⟩ (.int .i64 x.n)).setCell ⟨w.heap.size,2,none⟩ sv) ∧
   Blk (((w1.setCell ⟨w.heap.size,0,none⟩ (.int .u8 x.op)).setCell ⟨w.heap.size,1,none⟩ (.int .i64 x.n)).setCell ⟨w.heap.size,2,none⟩ sv) w.heap.size 179 #[.int .u8 x.op, .int .i64 x.n,sv] :=
 prPost_mk (fun w1 w2 h1 hf => h1.fr hf (fun k hk => by omega)) h0 rfl (Nat.le_refl _) (ha.mono fun b hb => ⟨by omega,by omega,hb.2⟩) hr hf
set_option maxHeartbeats 1000000 in
theorem lv_or (f:PSt → Ex × PSt) (br:Nat) (E:Int) (st:PSt) (w:World) (h:RdAt w br E st) (hlen:Hid (∀ st,(f st).2.l.length ≤ st.l.length)) (hone:Hid (PrC 287 br E f st.l.length)) :
  Calls Tryz.prog 257 #[.pointer (some ⟨br,0,none⟩)] w (PrPost w (fun w st => RdAt w br E st) br (rowL f (lvSigns 0) (lvMost 0) (f st).1 (f st).2)):=by
 have hlr:=h.lt
 have hB:=((Below.refl _ w).alloc (Nat.le_refl _) (.cells #[.int .u8 0, .int .i64 0, .slice none 0 0] 179)).alloc (by simp) (.cells #[.string { data:=#[124] }, .int .u8 17] 374)
 have hF:=((Fr.refl (fun k => k = br) w).alloc (.cells #[.int .u8 0, .int .i64 0, .slice none 0 0] 179)).alloc (.cells #[.string { data:=#[124] }, .int .u8 17] 374)
 have hres:=(Blk.new w #[.int .u8 0, .int .i64 0, .slice none 0 0] 179).alloc (.cells #[.string { data:=#[124] }, .int .u8 17] 374)
 have hsg:=Blk.new_at (w.alloc (.cells #[.int .u8 0, .int .i64 0, .slice none 0 0] 179)) #[.string { data:=#[124] }, .int .u8 17] 374 (k:=w.heap.size + 1) (by simp)
 have hsz:((w.alloc (.cells #[.int .u8 0, .int .i64 0, .slice none 0 0] 179)).alloc (.cells #[.string { data:=#[124] }, .int .u8 17] 374)).heap.size = w.heap.size + 2:=by simp
 have hrow:Calls Tryz.prog 286 #[.pointer (some ⟨br,0,none⟩), .func (.func 287) #[.pointer (some ⟨br,0,none⟩)] #[], .int .i64 400, .slice (some ⟨w.heap.size + 1,0,none⟩) 1 1] _ _ :=
  row_c 287 (enters_of Tryz.func287 (by kernel_rfl) rfl) f (sgOf 0) 400 (by omega) br (w.heap.size + 1) E st _ (h.keep hB) ⟨hsg,by decide⟩ (by omega) hlen hone
 rw [sg_0] at hrow
 have HROW:=Lib.hid hrow
 have hEQ:Hid (rowL f (lvSigns 0) 400 (f st).1 (f st).2 = rowL f (lvSigns 0) (lvMost 0) (f st).1 (f st).2):=rfl
 have HSZ:=Lib.hid hsz
 clear hrow hsz hsg hB
 go_enter Tryz.func257,Tryz.ntmps257
 go_wp2_with (go_at_call 286; refine HROW.out.mono ?_; rintro e w1 ⟨_,rfl,ha,hr,hf⟩; obtain ⟨a9,n9,c9,rfl⟩:=ha.slice; have h0:=hres.fr hf (by omega); have z0:=h0.cell 0; have z1:=h0.cell 1; have z2:=h0.cell 2; have k0:=h0.free 0; have k1:=h0.free 1; have k2:=h0.free 2)
 rw [HSZ.out] at ha
 obtain ⟨p1,p2⟩:=prPost_pass (w.heap.size + 2) hlr (by omega) h0 ha hr (hF.trans hf)
 rw [← hEQ.out]
 refine bodyPost_ret (v := .agg #[_,_,_]) (results_cell_row rfl _ _ w.heap.size 179 _ (0,0) _ rfl p2 Tryz.underlying179 rfl ?_) rfl p1
 as_aux_lemma => kernel_rfl
set_option maxHeartbeats 1000000 in
theorem lv_and (f:PSt → Ex × PSt) (br:Nat) (E:Int) (st:PSt) (w:World) (h:RdAt w br E st) (hlen:Hid (∀ st,(f st).2.l.length ≤ st.l.length)) (hone:Hid (PrC 311 br E f st.l.length)) :
  Calls Tryz.prog 287 #[.pointer (some ⟨br,0,none⟩)] w (PrPost w (fun w st => RdAt w br E st) br (rowL f (lvSigns 1) (lvMost 1) (f st).1 (f st).2)):=by
 have hlr:=h.lt
 have hB:=((Below.refl _ w).alloc (Nat.le_refl _) (.cells #[.int .u8 0, .int .i64 0, .slice none 0 0] 179)).alloc (by simp) (.cells #[.string { data:=#[38] }, .int .u8 16] 374)
 have hF:=((Fr.refl (fun k => k = br) w).alloc (.cells #[.int .u8 0, .int .i64 0, .slice none 0 0] 179)).alloc (.cells #[.string { data:=#[38] }, .int .u8 16] 374)
 have hres:=(Blk.new w #[.int .u8 0, .int .i64 0, .slice none 0 0] 179).alloc (.cells #[.string { data:=#[38] }, .int .u8 16] 374)
 have hsg:=Blk.new_at (w.alloc (.cells #[.int .u8 0, .int .i64 0, .slice none 0 0] 179)) #[.string { data:=#[38] }, .int .u8 16] 374 (k:=w.heap.size + 1) (by simp)
 have hsz:((w.alloc (.cells #[.int .u8 0, .int .i64 0, .slice none 0 0] 179)).alloc (.cells #[.string { data:=#[38] }, .int .u8 16] 374)).heap.size = w.heap.size + 2:=by simp
 have hrow:Calls Tryz.prog 286 #[.pointer (some ⟨br,0,none⟩), .func (.func 311) #[.pointer (some ⟨br,0,none⟩)] #[], .int .i64 400, .slice (some ⟨w.heap.size + 1,0,none⟩) 1 1] _ _ :=
  row_c 311 (enters_of Tryz.func311 (by kernel_rfl) rfl) f (sgOf 1) 400 (by omega) br (w.heap.size + 1) E st _ (h.keep hB) ⟨hsg,by decide⟩ (by omega) hlen hone
 rw [sg_1] at hrow
 have HROW:=Lib.hid hrow
 have hEQ:Hid (rowL f (lvSigns 1) 400 (f st).1 (f st).2 = rowL f (lvSigns 1) (lvMost 1) (f st).1 (f st).2):=rfl
 have HSZ:=Lib.hid hsz
 clear hrow hsz hsg hB
 go_enter Tryz.func287,Tryz.ntmps287
 go_wp2_with (go_at_call 286; refine HROW.out.mono ?_; rintro e w1 ⟨_,rfl,ha,hr,hf⟩; obtain ⟨a9,n9,c9,rfl⟩:=ha.slice; have h0:=hres.fr hf (by omega); have z0:=h0.cell 0; have z1:=h0.cell 1; have z2:=h0.cell 2; have k0:=h0.free 0; have k1:=h0.free 1; have k2:=h0.free 2)
 rw [HSZ.out] at ha
 obtain ⟨p1,p2⟩:=prPost_pass (w.heap.size + 2) hlr (by omega) h0 ha hr (hF.trans hf)
 rw [← hEQ.out]
 refine bodyPost_ret (v := .agg #[_,_,_]) (results_cell_row rfl _ _ w.heap.size 179 _ (0,0) _ rfl p2 Tryz.underlying179 rfl ?_) rfl p1
 as_aux_lemma => kernel_rfl
set_option maxHeartbeats 1000000 in
theorem lv_cmp (f:PSt → Ex × PSt) (br:Nat) (E:Int) (st:PSt) (w:World) (h:RdAt w br E st) (hlen:Hid (∀ st,(f st).2.l.length ≤ st.l.length)) (hone:Hid (PrC 332 br E f st.l.length)) :
  Calls Tryz.prog 311 #[.pointer (some ⟨br,0,none⟩)] w (PrPost w (fun w st => RdAt w br E st) br (rowL f (lvSigns 2) (lvMost 2) (f st).1 (f st).2)):=by
 have hlr:=h.lt
 have hB:=((Below.refl _ w).alloc (Nat.le_refl _) (.cells #[.int .u8 0, .int .i64 0, .slice none 0 0] 179)).alloc (by simp) (.cells #[.string { data:=#[60] }, .int .u8 12, .string { data:=#[60,61] }, .int .u8 13, .string { data:=#[61] }, .int .u8 14, .string { data:=#[33,61] }, .int .u8 15] 374)
 have hF:=((Fr.refl (fun k => k = br) w).alloc (.cells #[.int .u8 0, .int .i64 0, .slice none 0 0] 179)).alloc (.cells #[.string { data:=#[60] }, .int .u8 12, .string { data:=#[60,61] }, .int .u8 13, .string { data:=#[61] }, .int .u8 14, .string { data:=#[33,61] }, .int .u8 15] 374)
 have hres:=(Blk.new w #[.int .u8 0, .int .i64 0, .slice none 0 0] 179).alloc (.cells #[.string { data:=#[60] }, .int .u8 12, .string { data:=#[60,61] }, .int .u8 13, .string { data:=#[61] }, .int .u8 14, .string { data:=#[33,61] }, .int .u8 15] 374)
 have hsg:=Blk.new_at (w.alloc (.cells #[.int .u8 0, .int .i64 0, .slice none 0 0] 179)) #[.string { data:=#[60] }, .int .u8 12, .string { data:=#[60,61] }, .int .u8 13, .string { data:=#[61] }, .int .u8 14, .string { data:=#[33,61] }, .int .u8 15] 374 (k:=w.heap.size + 1) (by simp)
 have hsz:((w.alloc (.cells #[.int .u8 0, .int .i64 0, .slice none 0 0] 179)).alloc (.cells #[.string { data:=#[60] }, .int .u8 12, .string { data:=#[60,61] }, .int .u8 13, .string { data:=#[61] }, .int .u8 14, .string { data:=#[33,61] }, .int .u8 15] 374)).heap.size = w.heap.size + 2:=by simp
 have hrow:Calls Tryz.prog 286 #[.pointer (some ⟨br,0,none⟩), .func (.func 332) #[.pointer (some ⟨br,0,none⟩)] #[], .int .i64 1, .slice (some ⟨w.heap.size + 1,0,none⟩) 4 4] _ _ :=
  row_c 332 (enters_of Tryz.func332 (by kernel_rfl) rfl) f (sgOf 2) 1 (by omega) br (w.heap.size + 1) E st _ (h.keep hB) ⟨hsg,by decide⟩ (by omega) hlen hone
 rw [sg_2] at hrow
 have HROW:=Lib.hid hrow
 have hEQ:Hid (rowL f (lvSigns 2) 1 (f st).1 (f st).2 = rowL f (lvSigns 2) (lvMost 2) (f st).1 (f st).2):=rfl
 have HSZ:=Lib.hid hsz
 clear hrow hsz hsg hB
 go_enter Tryz.func311,Tryz.ntmps311
 go_wp2_with (go_at_call 286; refine HROW.out.mono ?_; rintro e w1 ⟨_,rfl,ha,hr,hf⟩; obtain ⟨a9,n9,c9,rfl⟩:=ha.slice; have h0:=hres.fr hf (by omega); have z0:=h0.cell 0; have z1:=h0.cell 1; have z2:=h0.cell 2; have k0:=h0.free 0; have k1:=h0.free 1; have k2:=h0.free 2)
 rw [HSZ.out] at ha
 obtain ⟨p1,p2⟩:=prPost_pass (w.heap.size + 2) hlr (by omega) h0 ha hr (hF.trans hf)
 rw [← hEQ.out]
 refine bodyPost_ret (v := .agg #[_,_,_]) (results_cell_row rfl _ _ w.heap.size 179 _ (0,0) _ rfl p2 Tryz.underlying179 rfl ?_) rfl p1
 as_aux_lemma => kernel_rfl
set_option maxHeartbeats 1000000 in
theorem lv_sum (f:PSt → Ex × PSt) (br:Nat) (E:Int) (st:PSt) (w:World) (h:RdAt w br E st) (hlen:Hid (∀ st,(f st).2.l.length ≤ st.l.length)) (hone:Hid (PrC 341 br E f st.l.length)) :
  Calls Tryz.prog 332 #[.pointer (some ⟨br,0,none⟩)] w (PrPost w (fun w st => RdAt w br E st) br (rowL f (lvSigns 3) (lvMost 3) (f st).1 (f st).2)):=by
 have hlr:=h.lt
 have hB:=((Below.refl _ w).alloc (Nat.le_refl _) (.cells #[.int .u8 0, .int .i64 0, .slice none 0 0] 179)).alloc (by simp) (.cells #[.string { data:=#[43] }, .int .u8 7, .string { data:=#[45] }, .int .u8 8] 374)
 have hF:=((Fr.refl (fun k => k = br) w).alloc (.cells #[.int .u8 0, .int .i64 0, .slice none 0 0] 179)).alloc (.cells #[.string { data:=#[43] }, .int .u8 7, .string { data:=#[45] }, .int .u8 8] 374)
 have hres:=(Blk.new w #[.int .u8 0, .int .i64 0, .slice none 0 0] 179).alloc (.cells #[.string { data:=#[43] }, .int .u8 7, .string { data:=#[45] }, .int .u8 8] 374)
 have hsg:=Blk.new_at (w.alloc (.cells #[.int .u8 0, .int .i64 0, .slice none 0 0] 179)) #[.string { data:=#[43] }, .int .u8 7, .string { data:=#[45] }, .int .u8 8] 374 (k:=w.heap.size + 1) (by simp)
 have hsz:((w.alloc (.cells #[.int .u8 0, .int .i64 0, .slice none 0 0] 179)).alloc (.cells #[.string { data:=#[43] }, .int .u8 7, .string { data:=#[45] }, .int .u8 8] 374)).heap.size = w.heap.size + 2:=by simp
 have hrow:Calls Tryz.prog 286 #[.pointer (some ⟨br,0,none⟩), .func (.func 341) #[.pointer (some ⟨br,0,none⟩)] #[], .int .i64 400, .slice (some ⟨w.heap.size + 1,0,none⟩) 2 2] _ _ :=
  row_c 341 (enters_of Tryz.func341 (by kernel_rfl) rfl) f (sgOf 3) 400 (by omega) br (w.heap.size + 1) E st _ (h.keep hB) ⟨hsg,by decide⟩ (by omega) hlen hone
 rw [sg_3] at hrow
 have HROW:=Lib.hid hrow
 have hEQ:Hid (rowL f (lvSigns 3) 400 (f st).1 (f st).2 = rowL f (lvSigns 3) (lvMost 3) (f st).1 (f st).2):=rfl
 have HSZ:=Lib.hid hsz
 clear hrow hsz hsg hB
 go_enter Tryz.func332,Tryz.ntmps332
 go_wp2_with (go_at_call 286; refine HROW.out.mono ?_; rintro e w1 ⟨_,rfl,ha,hr,hf⟩; obtain ⟨a9,n9,c9,rfl⟩:=ha.slice; have h0:=hres.fr hf (by omega); have z0:=h0.cell 0; have z1:=h0.cell 1; have z2:=h0.cell 2; have k0:=h0.free 0; have k1:=h0.free 1; have k2:=h0.free 2)
 rw [HSZ.out] at ha
 obtain ⟨p1,p2⟩:=prPost_pass (w.heap.size + 2) hlr (by omega) h0 ha hr (hF.trans hf)
 rw [← hEQ.out]
 refine bodyPost_ret (v := .agg #[_,_,_]) (results_cell_row rfl _ _ w.heap.size 179 _ (0,0) _ rfl p2 Tryz.underlying179 rfl ?_) rfl p1
 as_aux_lemma => kernel_rfl
set_option maxHeartbeats 1000000 in
theorem lv_term (f:PSt → Ex × PSt) (br:Nat) (E:Int) (st:PSt) (w:World) (h:RdAt w br E st) (hlen:Hid (∀ st,(f st).2.l.length ≤ st.l.length)) (hone:Hid (PrC 344 br E f st.l.length)) :
  Calls Tryz.prog 341 #[.pointer (some ⟨br,0,none⟩)] w (PrPost w (fun w st => RdAt w br E st) br (rowL f (lvSigns 4) (lvMost 4) (f st).1 (f st).2)):=by
 have hlr:=h.lt
 have hB:=((Below.refl _ w).alloc (Nat.le_refl _) (.cells #[.int .u8 0, .int .i64 0, .slice none 0 0] 179)).alloc (by simp) (.cells #[.string { data:=#[42] }, .int .u8 9, .string { data:=#[47] }, .int .u8 10, .string { data:=#[37] }, .int .u8 11] 374)
 have hF:=((Fr.refl (fun k => k = br) w).alloc (.cells #[.int .u8 0, .int .i64 0, .slice none 0 0] 179)).alloc (.cells #[.string { data:=#[42] }, .int .u8 9, .string { data:=#[47] }, .int .u8 10, .string { data:=#[37] }, .int .u8 11] 374)
 have hres:=(Blk.new w #[.int .u8 0, .int .i64 0, .slice none 0 0] 179).alloc (.cells #[.string { data:=#[42] }, .int .u8 9, .string { data:=#[47] }, .int .u8 10, .string { data:=#[37] }, .int .u8 11] 374)
 have hsg:=Blk.new_at (w.alloc (.cells #[.int .u8 0, .int .i64 0, .slice none 0 0] 179)) #[.string { data:=#[42] }, .int .u8 9, .string { data:=#[47] }, .int .u8 10, .string { data:=#[37] }, .int .u8 11] 374 (k:=w.heap.size + 1) (by simp)
 have hsz:((w.alloc (.cells #[.int .u8 0, .int .i64 0, .slice none 0 0] 179)).alloc (.cells #[.string { data:=#[42] }, .int .u8 9, .string { data:=#[47] }, .int .u8 10, .string { data:=#[37] }, .int .u8 11] 374)).heap.size = w.heap.size + 2:=by simp
 have hrow:Calls Tryz.prog 286 #[.pointer (some ⟨br,0,none⟩), .func (.func 344) #[.pointer (some ⟨br,0,none⟩)] #[], .int .i64 400, .slice (some ⟨w.heap.size + 1,0,none⟩) 3 3] _ _ :=
  row_c 344 (enters_of Tryz.func344 (by kernel_rfl) rfl) f (sgOf 4) 400 (by omega) br (w.heap.size + 1) E st _ (h.keep hB) ⟨hsg,by decide⟩ (by omega) hlen hone
 rw [sg_4] at hrow
 have HROW:=Lib.hid hrow
 have hEQ:Hid (rowL f (lvSigns 4) 400 (f st).1 (f st).2 = rowL f (lvSigns 4) (lvMost 4) (f st).1 (f st).2):=rfl
 have HSZ:=Lib.hid hsz
 clear hrow hsz hsg hB
 go_enter Tryz.func341,Tryz.ntmps341
 go_wp2_with (go_at_call 286; refine HROW.out.mono ?_; rintro e w1 ⟨_,rfl,ha,hr,hf⟩; obtain ⟨a9,n9,c9,rfl⟩:=ha.slice; have h0:=hres.fr hf (by omega); have z0:=h0.cell 0; have z1:=h0.cell 1; have z2:=h0.cell 2; have k0:=h0.free 0; have k1:=h0.free 1; have k2:=h0.free 2)
 rw [HSZ.out] at ha
 obtain ⟨p1,p2⟩:=prPost_pass (w.heap.size + 2) hlr (by omega) h0 ha hr (hF.trans hf)
 rw [← hEQ.out]
 refine bodyPost_ret (v := .agg #[_,_,_]) (results_cell_row rfl _ _ w.heap.size 179 _ (0,0) _ rfl p2 Tryz.underlying179 rfl ?_) rfl p1
 as_aux_lemma => kernel_rfl
end Go.Proofs.YtpkijdkoiecpiaaGreatDoor
