/-
  Parts of the proof: E8 E9 E10.
-/
import Derived.Shelf.Abstract
import Derived.Test.YtpkijdkoiecpiaaGreatDoorZS39
namespace Go.Proofs.YtpkijdkoiecpiaaGreatDoor
open Go.RowKit
set_option linter.unusedVariables false
set_option linter.unusedSimpArgs false
def PrC (g:FuncId) (br:Nat) (E:Int) (f:PSt → Ex × PSt) (n:Nat):Prop:=∀ st' w',st'.l.length ≤ n → RdAt w' br E st' → Calls Tryz.prog g #[.pointer (some ⟨br,0,none⟩)] w' (PrPost w' (fun w st => RdAt w br E st) br (f st'))
theorem prPost_pass {w w1:World} {br:Nat} {E:Int} {st:PSt} {x:Ex} {sv:Value} (B:Nat) (hbr:br < w.heap.size) (hB:w.heap.size < B) (h0:Blk w1 w.heap.size 179 #[.int .u8 0, .int .i64 0, .slice none 0 0])
  (ha:ArgsIn w1 (fun b => B ≤ b ∧ b < w1.heap.size) x.args sv) (hr:RdAt w1 br E st) (hf:Fr (fun k => k = br) w w1) :
  PrPost w (fun w st => RdAt w br E st) br (x,st) (.returned (.agg #[.int .u8 x.op, .int .i64 x.n,sv])) (((w1.setCell ⟨w.heap.size,0,none⟩ (.int .u8 x.op)).setCell ⟨w.heap.size,1,none⟩ (.int .i64 x.n)).setCell ⟨w.heap.size,2,none⟩ sv) ∧
   Blk (((w1.setCell ⟨w.heap.size,0,none⟩ (.int .u8 x.op)).setCell ⟨w.heap.size,1,none⟩ (.int .i64 x.n)).setCell ⟨w.heap.size,2,none⟩ sv) w.heap.size 179 #[.int .u8 x.op, .int .i64 x.n,sv] :=
 prPost_mk (fun w1 w2 h1 hf => h1.fr hf (fun k hk => by omega)) h0 rfl (Nat.le_refl _) (ha.mono fun b hb => ⟨by omega,by omega,hb.2⟩) hr hf
set_option maxHeartbeats 1000000 in
theorem lv_or (f:PSt → Ex × PSt) (br:Nat) (E:Int) (st:PSt) (w:World) (h:RdAt w br E st) (hlen:Hid (∀ st,(f st).2.l.length ≤ st.l.length)) (hone:Hid (PrC 287 br E f st.l.length)) :
  Calls Tryz.prog 257 #[.pointer (some ⟨br,0,none⟩)] w (PrPost w (fun w st => RdAt w br E st) br (rowL f (lvSigns 0) (lvMost 0) (f st).1 (f st).2)):=by
 have hlr:=h.lt
 have hB:=((Below.refl _ w).alloc (Nat.le_refl _) (.cells #[.int .u8 0, .int .i64 0, .slice none 0 0] 179)).alloc (by simp) (.cells #[.string { data:=#[124] }, .int .u8 17] 374)
 have hF:=((Fr.refl (fun k => k = br) w).alloc (.cells #[.int .u8 0, .int .i64 0, .slice none 0 0] 179)).alloc (.cells #[.string { data:=#[124] }, .int .u8 17] 374)
 have hres:=(Blk.new w #[.int .u8 0, .int .i64 0, .slice none 0 0] 179).alloc (.cells #[.string { data:=#[124] }, .int .u8 17] 374)
 have hsg:=Blk.new_at (w.alloc (.cells #[.int .u8 0, .int .i64 0, .slice none 0 0] 179)) #[.string { data:=#[124] }, .int .u8 17] 374 (k:=w.heap.size + 1) (by simp)
 have hsz:((w.alloc (.cells #[.int .u8 0, .int .i64 0, .slice none 0 0] 179)).alloc (.cells #[.string { data:=#[124] }, .int .u8 17] 374)).heap.size = w.heap.size + 2:=by simp
 have hrow:Calls Tryz.prog 286 #[.pointer (some ⟨br,0,none⟩), .func (.func 287) #[.pointer (some ⟨br,0,none⟩)] #[], .int .i64 400, .slice (some ⟨w.heap.size + 1,0,none⟩) 1 1] _ _ :=
  row_c 287 (enters_of Tryz.func287 (by kernel_rfl) rfl) f (sgOf 0) 400 (by omega) br (w.heap.size + 1) E st _ (h.keep hB) ⟨hsg,by decide⟩ (by omega) hlen hone
 rw [sg_0] at hrow
 have HROW:=Lib.hid hrow
 have hEQ:Hid (rowL f (lvSigns 0) 400 (f st).1 (f st).2 = rowL f (lvSigns 0) (lvMost 0) (f st).1 (f st).2):=rfl
 have HSZ:=Lib.hid hsz
 clear hrow hsz hsg hB
 go_enter Tryz.func257,Tryz.ntmps257
 go_wp2_with (go_at_call 286; refine HROW.out.mono ?_; rintro e w1 ⟨_,rfl,ha,hr,hf⟩; obtain ⟨a9,n9,c9,rfl⟩:=ha.slice; have h0:=hres.fr hf (by omega); have z0:=h0.cell 0; have z1:=h0.cell 1; have z2:=h0.cell 2; have k0:=h0.free 0; have k1:=h0.free 1; have k2:=h0.free 2)
 rw [HSZ.out] at ha
 obtain ⟨p1,p2⟩:=prPost_pass (w.heap.size + 2) hlr (by omega) h0 ha hr (hF.trans hf)
 rw [← hEQ.out]
 refine bodyPost_ret (v := .agg #[_,_,_]) (results_cell_row rfl _ _ w.heap.size 179 _ (0,0) _ rfl p2 Tryz.underlying179 rfl ?_) rfl p1
 as_aux_lemma => kernel_rfl
set_option maxHeartbeats 1000000 in
theorem lv_and (f:PSt → Ex × PSt) (br:Nat) (E:Int) (st:PSt) (w:World) (h:RdAt w br E st) (hlen:Hid (∀ st,(f st).2.l.length ≤ st.l.length)) (hone:Hid (PrC 311 br E f st.l.length)) :
  Calls Tryz.prog 287 #[.pointer (some ⟨br,0,none⟩)] w (PrPost w (fun w st => RdAt w br E st) br (rowL f (lvSigns 1) (lvMost 1) (f st).1 (f st).2)):=by
 have hlr:=h.lt
 have hB:=((Below.refl _ w).alloc (Nat.le_refl _) (.cells #[.int .u8 0, .int .i64 0, .slice none 0 0] 179)).alloc (by simp) (.cells #[.string { data:=#[38] }, .int .u8 16] 374)
 have hF:=((Fr.refl (fun k => k = br) w).alloc (.cells #[.int .u8 0, .int .i64 0, .slice none 0 0] 179)).alloc (.cells #[.string { data:=#[38] }, .int .u8 16] 374)
 have hres:=(Blk.new w #[.int .u8 0, .int .i64 0, .slice none 0 0] 179).alloc (.cells #[.string { data:=#[38] }, .int .u8 16] 374)
 have hsg:=Blk.new_at (w.alloc (.cells #[.int .u8 0, .int .i64 0, .slice none 0 0] 179)) #[.string { data:=#[38] }, .int .u8 16] 374 (k:=w.heap.size + 1) (by simp)
 have hsz:((w.alloc (.cells #[.int .u8 0, .int .i64 0, .slice none 0 0] 179)).alloc (.cells #[.string { data:=#[38] }, .int .u8 16] 374)).heap.size = w.heap.size + 2:=by simp
 have hrow:Calls Tryz.prog 286 #[.pointer (some ⟨br,0,none⟩), .func (.func 311) #[.pointer (some ⟨br,0,none⟩)] #[], .int .i64 400, .slice (some ⟨w.heap.size + 1,0,none⟩) 1 1] _ _ :=
  row_c 311 (enters_of Tryz.func311 (by kernel_rfl) rfl) f (sgOf 1) 400 (by omega) br (w.heap.size + 1) E st _ (h.keep hB) ⟨hsg,by decide⟩ (by omega) hlen hone
 rw [sg_1] at hrow
 have HROW:=Lib.hid hrow
 have hEQ:Hid (rowL f (lvSigns 1) 400 (f st).1 (f st).2 = rowL f (lvSigns 1) (lvMost 1) (f st).1 (f st).2):=rfl
 have HSZ:=Lib.hid hsz
 clear hrow hsz hsg hB
 go_enter Tryz.func287,Tryz.ntmps287
 go_wp2_with (go_at_call 286; refine HROW.out.mono ?_; rintro e w1 ⟨_,rfl,ha,hr,hf⟩; obtain ⟨a9,n9,c9,rfl⟩:=ha.slice; have h0:=hres.fr hf (by omega); have z0:=h0.cell 0; have z1:=h0.cell 1; have z2:=h0.cell 2; have k0:=h0.free 0; have k1:=h0.free 1; have k2:=h0.free 2)
 rw [HSZ.out] at ha
 obtain ⟨p1,p2⟩:=prPost_pass (w.heap.size + 2) hlr (by omega) h0 ha hr (hF.trans hf)
 rw [← hEQ.out]
 refine bodyPost_ret (v := .agg #[_,_,_]) (results_cell_row rfl _ _ w.heap.size 179 _ (0,0) _ rfl p2 Tryz.underlying179 rfl ?_) rfl p1
 as_aux_lemma => kernel_rfl
set_option maxHeartbeats 1000000 in
theorem lv_cmp (f:PSt → Ex × PSt) (br:Nat) (E:Int) (st:PSt) (w:World) (h:RdAt w br E st) (hlen:Hid (∀ st,(f st).2.l.length ≤ st.l.length)) (hone:Hid (PrC 332 br E f st.l.length)) :
  Calls Tryz.prog 311 #[.pointer (some ⟨br,0,none⟩)] w (PrPost w (fun w st => RdAt w br E st) br (rowL f (lvSigns 2) (lvMost 2) (f st).1 (f st).2)):=by
 have hlr:=h.lt
 have hB:=((Below.refl _ w).alloc (Nat.le_refl _) (.cells #[.int .u8 0, .int .i64 0, .slice none 0 0] 179)).alloc (by simp) (.cells #[.string { data:=#[60] }, .int .u8 12, .string { data:=#[60,61] }, .int .u8 13, .string { data:=#[61] }, .int .u8 14, .string { data:=#[33,61] }, .int .u8 15] 374)
 have hF:=((Fr.refl (fun k => k = br) w).alloc (.cells #[.int .u8 0, .int .i64 0, .slice none 0 0] 179)).alloc (.cells #[.string { data:=#[60] }, .int .u8 12, .string { data:=#[60,61] }, .int .u8 13, .string { data:=#[61] }, .int .u8 14, .string { data:=#[33,61] }, .int .u8 15] 374)
 have hres:=(Blk.new w #[.int .u8 0, .int .i64 0, .slice none 0 0] 179).alloc (.cells #[.string { data:=#[60] }, .int .u8 12, .string { data:=#[60,61] }, .int .u8 13, .string { data:=#[61] }, .int .u8 14, .string { data:=#[33,61] }, .int .u8 15] 374)
 have hsg:=Blk.new_at (w.alloc (.cells #[.int .u8 0, .int .i64 0, .slice none 0 0] 179)) #[.string { data:=#[60] }, .int .u8 12, .string { data:=#[60,61] }, .int .u8 13, .string { data:=#[61] }, .int .u8 14, .string { data:=#[33,61] }, .int .u8 15] 374 (k:=w.heap.size + 1) (by simp)
 have hsz:((w.alloc (.cells #[.int .u8 0, .int .i64 0, .slice none 0 0] 179)).alloc (.cells #[.string { data:=#[60] }, .int .u8 12, .string { data:=#[60,61] }, .int .u8 13, .string { data:=#[61] }, .int .u8 14, .string { data:=#[33,61] }, .int .u8 15] 374)).heap.size = w.heap.size + 2:=by simp
 have hrow:Calls Tryz.prog 286 #[.pointer (some ⟨br,0,none⟩), .func (.func 332) #[.pointer (some ⟨br,0,none⟩)] #[], .int .i64 1, .slice (some ⟨w.heap.size + 1,0,none⟩) 4 4] _ _ :=
  row_c 332 (enters_of Tryz.func332 (by kernel_rfl) rfl) f (sgOf 2) 1 (by omega) br (w.heap.size + 1) E st _ (h.keep hB) ⟨hsg,by decide⟩ (by omega) hlen hone
 rw [sg_2] at hrow
 have HROW:=Lib.hid hrow
 have hEQ:Hid (rowL f (lvSigns 2) 1 (f st).1 (f st).2 = rowL f (lvSigns 2) (lvMost 2) (f st).1 (f st).2):=rfl
 have HSZ:=Lib.hid hsz
 clear hrow hsz hsg hB
 go_enter Tryz.func311,Tryz.ntmps311
 go_wp2_with (go_at_call 286; refine HROW.out.mono ?_; rintro e w1 ⟨_,rfl,ha,hr,hf⟩; obtain ⟨a9,n9,c9,rfl⟩:=ha.slice; have h0:=hres.fr hf (by omega); have z0:=h0.cell 0; have z1:=h0.cell 1; have z2:=h0.cell 2; have k0:=h0.free 0; have k1:=h0.free 1; have k2:=h0.free 2)
 rw [HSZ.out] at ha
 obtain ⟨p1,p2⟩:=prPost_pass (w.heap.size + 2) hlr (by omega) h0 ha hr (hF.trans hf)
 rw [← hEQ.out]
 refine bodyPost_ret (v := .agg #[_,_,_]) (results_cell_row rfl _ _ w.heap.size 179 _ (0,0) _ rfl p2 Tryz.underlying179 rfl ?_) rfl p1
 as_aux_lemma => kernel_rfl
set_option maxHeartbeats 1000000 in
theorem lv_sum (f:PSt → Ex × PSt) (br:Nat) (E:Int) (st:PSt) (w:World) (h:RdAt w br E st) (hlen:Hid (∀ st,(f st).2.l.length ≤ st.l.length)) (hone:Hid (PrC 341 br E f st.l.length)) :
  Calls Tryz.prog 332 #[.pointer (some ⟨br,0,none⟩)] w (PrPost w (fun w st => RdAt w br E st) br (rowL f (lvSigns 3) (lvMost 3) (f st).1 (f st).2)):=by
 have hlr:=h.lt
 have hB:=((Below.refl _ w).alloc (Nat.le_refl _) (.cells #[.int .u8 0, .int .i64 0, .slice none 0 0] 179)).alloc (by simp) (.cells #[.string { data:=#[43] }, .int .u8 7, .string { data:=#[45] }, .int .u8 8] 374)
 have hF:=((Fr.refl (fun k => k = br) w).alloc (.cells #[.int .u8 0, .int .i64 0, .slice none 0 0] 179)).alloc (.cells #[.string { data:=#[43] }, .int .u8 7, .string { data:=#[45] }, .int .u8 8] 374)
 have hres:=(Blk.new w #[.int .u8 0, .int .i64 0, .slice none 0 0] 179).alloc (.cells #[.string { data:=#[43] }, .int .u8 7, .string { data:=#[45] }, .int .u8 8] 374)
 have hsg:=Blk.new_at (w.alloc (.cells #[.int .u8 0, .int .i64 0, .slice none 0 0] 179)) #[.string { data:=#[43] }, .int .u8 7, .string { data:=#[45] }, .int .u8 8] 374 (k:=w.heap.size + 1) (by simp)
 have hsz:((w.alloc (.cells #[.int .u8 0, .int .i64 0, .slice none 0 0] 179)).alloc (.cells #[.string { data:=#[43] }, .int .u8 7, .string { data:=#[45] }, .int .u8 8] 374)).heap.size = w.heap.size + 2:=by simp
 have hrow:Calls Tryz.prog 286 #[.pointer (some ⟨br,0,none⟩), .func (.func 341) #[.pointer (some ⟨br,0,none⟩)] #[], .int .i64 400, .slice (some ⟨w.heap.size + 1,0,none⟩) 2 2] _ _ :=
  row_c 341 (enters_of Tryz.func341 (by kernel_rfl) rfl) f (sgOf 3) 400 (by omega) br (w.heap.size + 1) E st _ (h.keep hB) ⟨hsg,by decide⟩ (by omega) hlen hone
 rw [sg_3] at hrow
 have HROW:=Lib.hid hrow
 have hEQ:Hid (rowL f (lvSigns 3) 400 (f st).1 (f st).2 = rowL f (lvSigns 3) (lvMost 3) (f st).1 (f st).2):=rfl
 have HSZ:=Lib.hid hsz
 clear hrow hsz hsg hB
 go_enter Tryz.func332,Tryz.ntmps332
 go_wp2_with (go_at_call 286; refine HROW.out.mono ?_; rintro e w1 ⟨_,rfl,ha,hr,hf⟩; obtain ⟨a9,n9,c9,rfl⟩:=ha.slice; have h0:=hres.fr hf (by omega); have z0:=h0.cell 0; have z1:=h0.cell 1; have z2:=h0.cell 2; have k0:=h0.free 0; have k1:=h0.free 1; have k2:=h0.free 2)
 rw [HSZ.out] at ha
 obtain ⟨p1,p2⟩:=prPost_pass (w.heap.size + 2) hlr (by omega) h0 ha hr (hF.trans hf)
 rw [← hEQ.out]
 refine bodyPost_ret (v := .agg #[_,_,_]) (results_cell_row rfl _ _ w.heap.size 179 _ (0,0) _ rfl p2 Tryz.underlying179 rfl ?_) rfl p1
 as_aux_lemma => kernel_rfl
set_option maxHeartbeats 1000000 in
theorem lv_term (f:PSt → Ex × PSt) (br:Nat) (E:Int) (st:PSt) (w:World) (h:RdAt w br E st) (hlen:Hid (∀ st,(f st).2.l.length ≤ st.l.length)) (hone:Hid (PrC 344 br E f st.l.length)) :
  Calls Tryz.prog 341 #[.pointer (some ⟨br,0,none⟩)] w (PrPost w (fun w st => RdAt w br E st) br (rowL f (lvSigns 4) (lvMost 4) (f st).1 (f st).2)):=by
 have hlr:=h.lt
 have hB:=((Below.refl _ w).alloc (Nat.le_refl _) (.cells #[.int .u8 0, .int .i64 0, .slice none 0 0] 179)).alloc (by simp) (.cells #[.string { data:=#[42] }, .int .u8 9, .string { data:=#[47] }, .int .u8 10, .string { data:=#[37] }, .int .u8 11] 374)
 have hF:=((Fr.refl (fun k => k = br) w).alloc (.cells #[.int .u8 0, .int .i64 0, .slice none 0 0] 179)).alloc (.cells #[.string { data:=#[42] }, .int .u8 9, .string { data:=#[47] }, .int .u8 10, .string { data:=#[37] }, .int .u8 11] 374)
 have hres:=(Blk.new w #[.int .u8 0, .int .i64 0, .slice none 0 0] 179).alloc (.cells #[.string { data:=#[42] }, .int .u8 9, .string { data:=#[47] }, .int .u8 10, .string { data:=#[37] }, .int .u8 11] 374)
 have hsg:=Blk.new_at (w.alloc (.cells #[.int .u8 0, .int .i64 0, .slice none 0 0] 179)) #[.string { data:=#[42] }, .int .u8 9, .string { data:=#[47] }, .int .u8 10, .string { data:=#[37] }, .int .u8 11] 374 (k:=w.heap.size + 1) (by simp)
 have hsz:((w.alloc (.cells #[.int .u8 0, .int .i64 0, .slice none 0 0] 179)).alloc (.cells #[.string { data:=#[42] }, .int .u8 9, .string { data:=#[47] }, .int .u8 10, .string { data:=#[37] }, .int .u8 11] 374)).heap.size = w.heap.size + 2:=by simp
 have hrow:Calls Tryz.prog 286 #[.pointer (some ⟨br,0,none⟩), .func (.func 344) #[.pointer (some ⟨br,0,none⟩)] #[], .int .i64 400, .slice (some ⟨w.heap.size + 1,0,none⟩) 3 3] _ _ :=
  row_c 344 (enters_of Tryz.func344 (by kernel_rfl) rfl) f (sgOf 4) 400 (by omega) br (w.heap.size + 1) E st _ (h.keep hB) ⟨hsg,by decide⟩ (by omega) hlen hone
 rw [sg_4] at hrow
 have HROW:=Lib.hid hrow
 have hEQ:Hid (rowL f (lvSigns 4) 400 (f st).1 (f st).2 = rowL f (lvSigns 4) (lvMost 4) (f st).1 (f st).2):=rfl
 have HSZ:=Lib.hid hsz
 clear hrow hsz hsg hB
 go_enter Tryz.func341,Tryz.ntmps341
 go_wp2_with (go_at_call 286; refine HROW.out.mono ?_; rintro e w1 ⟨_,rfl,ha,hr,hf⟩; obtain ⟨a9,n9,c9,rfl⟩:=ha.slice; have h0:=hres.fr hf (by omega); have z0:=h0.cell 0; have z1:=h0.cell 1; have z2:=h0.cell 2; have k0:=h0.free 0; have k1:=h0.free 1; have k2:=h0.free 2)
 rw [HSZ.out] at ha
 obtain ⟨p1,p2⟩:=prPost_pass (w.heap.size + 2) hlr (by omega) h0 ha hr (hF.trans hf)
 rw [← hEQ.out]
 refine bodyPost_ret (v := .agg #[_,_,_]) (results_cell_row rfl _ _ w.heap.size 179 _ (0,0) _ rfl p2 Tryz.underlying179 rfl ?_) rfl p1
 as_aux_lemma => kernel_rfl
attribute [local go_sem ↓] Go.wp_at_zero Go.wp_at_succ
theorem is_no (br:Nat) (E:Int) (st:PSt) (s:ByteArray) (l:List UInt8) (hs:s.toList = l) (w:World) (hb:st.isB l = false) (h:RdAt w br E st) :
  Calls Tryz.prog 310 #[.pointer (some ⟨br,0,none⟩), .string s] w fun e w' => e = .returned (.bool false) ∧ RdAt w' br E st ∧ Fr (fun k => k = br) w w':=by
 subst hs
 exact (is_false br E st s w h hb).mono fun e w' ⟨he,hw⟩ => ⟨he,h.keep hw,Fr.of_new hw⟩
theorem is_yes (br:Nat) (E:Int) (st:PSt) (s:ByteArray) (l:List UInt8) (hs:s.toList = l) (w:World) (hb:st.isB l = true) (h:RdAt w br E st) :
  Calls Tryz.prog 310 #[.pointer (some ⟨br,0,none⟩), .string s] w fun e w' => e = .returned (.bool true) ∧ RdAt w' br E st.next ∧ Fr (fun k => k = br) w w':=by
 subst hs
 exact is_true br E st s w h hb
theorem must_l (br:Nat) (E:Int) (st:PSt) (s:ByteArray) (l:List UInt8) (hs:s.toList = l) (w:World) (h:RdAt w br E st) :
  Calls Tryz.prog 354 #[.pointer (some ⟨br,0,none⟩), .string s] w fun e w' => e = .returned (.tuple #[]) ∧ RdAt w' br E (st.must E l) ∧ Fr (fun k => k = br) w w':=by
 subst hs
 exact must_c br E st s w h
theorem prPost_new {w w2:World} {br:Nat} {E:Int} {st:PSt} {cs:Array Value} {l:List Ex} {n:Nat} {op:Int} (B:Nat) (hbr:br < w.heap.size) (hB:w.heap.size < B) (h0:Blk w2 w.heap.size 179 #[.int .u8 0, .int .i64 0, .slice none 0 0])
  (hr:RdAt w2 br E st) (hf:Fr (fun k => k = br) w w2)
  (hl:∀ (W:World) (P:Nat → Prop),Blk W w2.heap.size 179 cs → P w2.heap.size → (∀ l v,ArgsIn w2 (fun b => B ≤ b ∧ b < w2.heap.size) l v → ArgsIn W P l v) → ArgsIn W P l (.slice (some ⟨w2.heap.size,0,none⟩) n n)) :
  PrPost w (fun w st => RdAt w br E st) br (.mk op 0 l,st) (.returned (.agg #[.int .u8 op, .int .i64 0, .slice (some ⟨w2.heap.size,0,none⟩) n n]))
   ((((w2.setCell ⟨w.heap.size,0,none⟩ (.int .u8 op)).setCell ⟨w.heap.size,1,none⟩ (.int .i64 0)).setCell ⟨w.heap.size,2,none⟩ (.slice (some ⟨w2.heap.size,0,none⟩) n n)).alloc (.cells cs 179)) ∧
  Blk ((((w2.setCell ⟨w.heap.size,0,none⟩ (.int .u8 op)).setCell ⟨w.heap.size,1,none⟩ (.int .i64 0)).setCell ⟨w.heap.size,2,none⟩ (.slice (some ⟨w2.heap.size,0,none⟩) n n)).alloc (.cells cs 179)) w.heap.size 179 #[.int .u8 op, .int .i64 0, .slice (some ⟨w2.heap.size,0,none⟩) n n]:=by
 have hlt:=h0.lt
 have hF:Fr (fun k => k = w.heap.size) w2 ((((w2.setCell ⟨w.heap.size,0,none⟩ (.int .u8 op)).setCell ⟨w.heap.size,1,none⟩ (.int .i64 0)).setCell ⟨w.heap.size,2,none⟩ (.slice (some ⟨w2.heap.size,0,none⟩) n n)).alloc (.cells cs 179)) :=
  ((((Fr.refl (fun k => k = w.heap.size) w2).setCell (p:=⟨w.heap.size,0,none⟩) (.inl rfl) _).setCell (p:=⟨w.heap.size,1,none⟩) (.inl rfl) _).setCell (p:=⟨w.heap.size,2,none⟩) (.inl rfl) _).alloc _
 have hN:=Blk.new_at (((w2.setCell ⟨w.heap.size,0,none⟩ (.int .u8 op)).setCell ⟨w.heap.size,1,none⟩ (.int .i64 0)).setCell ⟨w.heap.size,2,none⟩ (.slice (some ⟨w2.heap.size,0,none⟩) n n)) cs 179 (k:=w2.heap.size) (by simp [World.setCell])
 have hC:=((((h0.set 0 (.int .u8 op)).set 1 (.int .i64 0)).set 2 (.slice (some ⟨w2.heap.size,0,none⟩) n n)).alloc (.cells cs 179))
 have hfr:=(((hf.setCell (p:=⟨w.heap.size,0,none⟩) (.inr (Nat.le_refl _)) (.int .u8 op)).setCell (p:=⟨w.heap.size,1,none⟩) (.inr (Nat.le_refl _)) (.int .i64 0)).setCell (p:=⟨w.heap.size,2,none⟩) (.inr (Nat.le_refl _)) (.slice (some ⟨w2.heap.size,0,none⟩) n n)).alloc (.cells cs 179)
 have hsz:w2.heap.size + 1 = ((((w2.setCell ⟨w.heap.size,0,none⟩ (.int .u8 op)).setCell ⟨w.heap.size,1,none⟩ (.int .i64 0)).setCell ⟨w.heap.size,2,none⟩ (.slice (some ⟨w2.heap.size,0,none⟩) n n)).alloc (.cells cs 179)).heap.size:=by simp [World.setCell]
 generalize World.alloc _ _ = W at *
 refine ⟨⟨_,rfl,hl W _ hN ⟨by omega,by omega⟩ fun l v ha => ha.fr hF (fun b hb => ⟨hb.2,by omega⟩) (fun b hb => ⟨by omega,by omega⟩),hr.fr hF (fun k hk => by omega),hfr⟩,hC⟩
theorem s_minus:({ data:=#[45] }:ByteArray).toList = [45]:=by kernel_rfl
theorem s_not:({ data:=#[33] }:ByteArray).toList = [33]:=by kernel_rfl
theorem s_open:({ data:=#[40] }:ByteArray).toList = [40]:=by kernel_rfl
theorem s_shut:({ data:=#[41] }:ByteArray).toList = [41]:=by kernel_rfl
theorem s_key:({ data:=#[107,101,121] }:ByteArray).toList = wKey:=by kernel_rfl
theorem s_val:({ data:=#[118,97,108] }:ByteArray).toList = wVal:=by kernel_rfl
theorem s_acc:({ data:=#[97,99,99] }:ByteArray).toList = wAcc:=by kernel_rfl
theorem s_if:({ data:=#[105,102] }:ByteArray).toList = wIf:=by kernel_rfl
theorem s_then:({ data:=#[116,104,101,110] }:ByteArray).toList = wThen:=by kernel_rfl
theorem s_else:({ data:=#[101,108,115,101] }:ByteArray).toList = wElse:=by kernel_rfl
set_option maxHeartbeats 1000000 in
theorem lv_unary (br:Nat) (E:Int) (st:PSt) (w:World) (h:RdAt w br E st)
  (h5:Hid (∀ n,n < st.l.length → PrC 344 br E (prF E 5) n)) (h6:Hid (PrC 349 br E (prF E 6) st.l.length)) :
  Calls Tryz.prog 344 #[.pointer (some ⟨br,0,none⟩)] w (PrPost w (fun w st => RdAt w br E st) br (prUnary (prF E) st)):=by
 have hlr:=h.lt
 have hB:=(Below.refl _ w).alloc (Nat.le_refl _) (.cells #[.int .u8 0, .int .i64 0, .slice none 0 0] 179)
 have hF:=(Fr.refl (fun k => k = br) w).alloc (.cells #[.int .u8 0, .int .i64 0, .slice none 0 0] 179)
 have hres:=Blk.new w #[.int .u8 0, .int .i64 0, .slice none 0 0] 179
 have HR:=Lib.hid (h.keep hB)
 have hsz:(w.alloc (.cells #[.int .u8 0, .int .i64 0, .slice none 0 0] 179)).heap.size = w.heap.size + 1:=by simp
 have HSZ:=Lib.hid hsz
 clear h hB hsz
 cases hm:st.isB [45]
 ·cases hn:st.isB [33]
  ·have HE:Hid (prUnary (prF E) st = prF E 6 st):=by show _ = _; unfold prUnary; rw [hm,hn]; rfl
   have HM:=Lib.hid hm
   have HN:=Lib.hid hn
   clear hm hn
   go_enter Tryz.func344,Tryz.ntmps344
   go_wp2_with fail
   refine (is_no br E st _ _ s_minus _ HM.out HR.out).mono ?_
   rintro e w1 ⟨rfl,h1,hf1⟩
   have H1:=Lib.hid h1
   clear h1
   go_wp2_with fail
   refine (is_no br E st _ _ s_not _ HN.out H1.out).mono ?_
   rintro e w2 ⟨rfl,h2,hf2⟩
   have H2:=Lib.hid h2
   clear h2
   go_wp2_with fail
   refine (h6.out st _ (Nat.le_refl _) H2.out).mono ?_
   rintro e w3 ⟨_,rfl,ha,hr,hf3⟩
   obtain ⟨a9,n9,c9,rfl⟩:=ha.slice
   have hf:=(hf1.trans hf2).trans hf3
   have h0:=hres.fr hf (by omega)
   have z0:=h0.cell 0
   have z1:=h0.cell 1
   have z2:=h0.cell 2
   have k0:=h0.free 0
   have k1:=h0.free 1
   have k2:=h0.free 2
   have hs2:=(hf1.trans hf2).size
   rw [HSZ.out] at hs2
   clear hres
   go_wp2_with fail
   obtain ⟨p1,p2⟩:=prPost_pass w2.heap.size hlr (by omega) h0 ha hr (hF.trans hf)
   rw [HE.out]
   refine bodyPost_ret (v := .agg #[_,_,_]) (results_cell_row rfl _ _ w.heap.size 179 _ (0,0) _ rfl p2 Tryz.underlying179 rfl ?_) rfl p1
   as_aux_lemma => kernel_rfl
  ·have HE:Hid (prUnary (prF E) st = (.mk 6 0 [(prF E 5 st.next).1],(prF E 5 st.next).2)):=by show _ = _; unfold prUnary; rw [hm,hn]; rfl
   have HM:=Lib.hid hm
   have HN:=Lib.hid hn
   have HL:=Lib.hid (PSt.next_lt hn)
   clear hm hn
   go_enter Tryz.func344,Tryz.ntmps344
   go_wp2_with fail
   refine (is_no br E st _ _ s_minus _ HM.out HR.out).mono ?_
   rintro e w1 ⟨rfl,h1,hf1⟩
   have H1:=Lib.hid h1
   clear h1
   go_wp2_with fail
   refine (is_yes br E st _ _ s_not _ HN.out H1.out).mono ?_
   rintro e w2 ⟨rfl,h2,hf2⟩
   have H2:=Lib.hid h2
   clear h2
   go_wp2_with fail
   refine (h5.out _ HL.out st.next _ (Nat.le_refl _) H2.out).mono ?_
   rintro e w3 ⟨_,rfl,ha,hr,hf3⟩
   obtain ⟨a9,n9,c9,rfl⟩:=ha.slice
   have hf:=(hf1.trans hf2).trans hf3
   have h0:=hres.fr hf (by omega)
   have z0:=h0.cell 0
   have z1:=h0.cell 1
   have z2:=h0.cell 2
   have k0:=h0.free 0
   have k1:=h0.free 1
   have k2:=h0.free 2
   have hs2:=(hf1.trans hf2).size
   have hs3:=h0.lt
   rw [HSZ.out] at hs2
   clear hres
   go_wp2_with fail
   obtain ⟨p1,p2⟩:=prPost_new (op:=6) (l:=[(prF E 5 st.next).1]) (n:=1) w2.heap.size hlr (by omega) h0 hr (hF.trans hf) (fun W P hb hP hk => ArgsIn.one hb hP (hk _ _ ha))
   rw [HE.out]
   refine bodyPost_ret (v := .agg #[_,_,_]) (results_cell_row rfl _ _ w.heap.size 179 _ (0,0) _ rfl p2 Tryz.underlying179 rfl ?_) rfl p1
   as_aux_lemma => kernel_rfl
 ·have HE:Hid (prUnary (prF E) st = (.mk 5 0 [(prF E 5 st.next).1],(prF E 5 st.next).2)):=by show _ = _; unfold prUnary; rw [hm]; rfl
  have HM:=Lib.hid hm
  have HL:=Lib.hid (PSt.next_lt hm)
  clear hm
  go_enter Tryz.func344,Tryz.ntmps344
  go_wp2_with fail
  refine (is_yes br E st _ _ s_minus _ HM.out HR.out).mono ?_
  rintro e w2 ⟨rfl,h2,hf2⟩
  have H2:=Lib.hid h2
  clear h2
  go_wp2_with fail
  refine (h5.out _ HL.out st.next _ (Nat.le_refl _) H2.out).mono ?_
  rintro e w3 ⟨_,rfl,ha,hr,hf3⟩
  obtain ⟨a9,n9,c9,rfl⟩:=ha.slice
  have hf:=hf2.trans hf3
  have h0:=hres.fr hf (by omega)
  have z0:=h0.cell 0
  have z1:=h0.cell 1
  have z2:=h0.cell 2
  have k0:=h0.free 0
  have k1:=h0.free 1
  have k2:=h0.free 2
  have hs2:=hf2.size
  have hs3:=h0.lt
  rw [HSZ.out] at hs2
  clear hres
  go_wp2_with fail
  obtain ⟨p1,p2⟩:=prPost_new (op:=5) (l:=[(prF E 5 st.next).1]) (n:=1) w2.heap.size hlr (by omega) h0 hr (hF.trans hf) (fun W P hb hP hk => ArgsIn.one hb hP (hk _ _ ha))
  rw [HE.out]
  refine bodyPost_ret (v := .agg #[_,_,_]) (results_cell_row rfl _ _ w.heap.size 179 _ (0,0) _ rfl p2 Tryz.underlying179 rfl ?_) rfl p1
  as_aux_lemma => kernel_rfl
theorem PSt.numB_tok (E:Int) (st:PSt):st.numB = ((st.tok E).kind == 2):=by
 obtain ⟨l,b⟩:=st
 cases l with
 | nil => rfl
 | cons t l => show decide (t.kind = 2) = (t.kind == 2); cases h:(t.kind == 2) <;> simp_all
set_option maxRecDepth 100000 in
set_option maxHeartbeats 1000000 in
theorem one_bad (br:Nat) (E:Int) (st:PSt) (w:World) (h:RdAt w br E st) (hbad:st.bad.isSome = true) :
  Calls Tryz.prog 349 #[.pointer (some ⟨br,0,none⟩)] w (PrPost w (fun w st => RdAt w br E st) br (Ex.zero,st)):=by
 have hlr:=h.lt
 have hB:=(Below.refl _ w).alloc (Nat.le_refl _) (.cells #[.int .u8 0, .int .i64 0, .slice none 0 0] 179)
 have hF:=(Fr.refl (fun k => k = br) w).alloc (.cells #[.int .u8 0, .int .i64 0, .slice none 0 0] 179)
 have hres:=Blk.new w #[.int .u8 0, .int .i64 0, .slice none 0 0] 179
 have HR:=Lib.hid (h.keep hB)
 have hsz:(w.alloc (.cells #[.int .u8 0, .int .i64 0, .slice none 0 0] 179)).heap.size = w.heap.size + 1:=by simp
 have HSZ:=Lib.hid hsz
 obtain ⟨⟨tk,tx,tn,ta⟩,htk⟩:∃ tq,st.tok E = tq:=⟨_,rfl⟩
 have HTK:=Lib.hid htk
 clear h hB hsz htk
 go_enter Tryz.func349,Tryz.ntmps349
 go_wp2_with fail
 refine (next_c br E st _ HR.out).mono ?_
 rintro e w1 ⟨rfl,hb1⟩
 rw [HTK.out]
 dsimp only [Tok.agg]
 go_upto_region 2 with fail
 have hfA:=(Fr.of_new (S:=fun k => k = br) hb1).alloc (.cells #[.int .u8 tk, .string tx, .int .i64 tn, .int .i64 ta] 367)
 have hf1:=hF.trans hfA
 have h0:=hres.fr hfA (by omega)
 have hD:=(HR.out.keep hb1).keep ((Below.refl _ _).alloc (Nat.le_refl _) (.cells #[.int .u8 tk, .string tx, .int .i64 tn, .int .i64 ta] 367))
 have ht:=Blk.new w1 #[.int .u8 tk, .string tx, .int .i64 tn, .int .i64 ta] 367
 have hs1:=hb1.size
 rw [HSZ.out] at hs1
 have hs2:w.heap.size + 1 ≤ (w1.alloc (.cells #[.int .u8 tk, .string tx, .int .i64 tn, .int .i64 ta] 367)).heap.size:=by simp; omega
 generalize htb:w1.heap.size = tb at *
 generalize w1.alloc _ = W at *
 obtain ⟨v,a,hb,ha0,hsl⟩:=hD.ex
 have b2:=hb.cell 2
 have t0:=ht.cell 0
 have z0:=h0.cell 0
 have z1:=h0.cell 1
 have z2:=h0.cell 2
 have k0:=h0.free 0
 have k1:=h0.free 1
 have k2:=h0.free 2
 clear hfA hF hres hb1 htb HR HSZ
 rw [hbad] at b2
 have HD:=Lib.hid hD
 have H0:=Lib.hid h0
 clear hb ha0 hsl h0 ht hbad hD
 go_wp2_with fail
 obtain ⟨p1,p2⟩:=prPost_pass (x:=Ex.zero) (w.heap.size + 1) hlr (by omega) H0.out (.nil none 0 (Nat.zero_le _)) HD.out hf1
 refine bodyPost_ret (v := .agg #[_,_,_]) (results_cell_row rfl _ _ w.heap.size 179 _ (0,0) _ rfl p2 Tryz.underlying179 rfl ?_) rfl p1
 as_aux_lemma => kernel_rfl
set_option maxRecDepth 100000 in
set_option maxHeartbeats 1000000 in
theorem one_key (br:Nat) (E:Int) (st:PSt) (w:World) (h:RdAt w br E st) (hbad:st.bad.isSome = false) (hnum:st.numB = false) (h_key:Hid (st.isB wKey = true)) :
  Calls Tryz.prog 349 #[.pointer (some ⟨br,0,none⟩)] w (PrPost w (fun w st => RdAt w br E st) br (.mk 2 0 [],st.next)):=by
 have hlr:=h.lt
 have hB:=(Below.refl _ w).alloc (Nat.le_refl _) (.cells #[.int .u8 0, .int .i64 0, .slice none 0 0] 179)
 have hF:=(Fr.refl (fun k => k = br) w).alloc (.cells #[.int .u8 0, .int .i64 0, .slice none 0 0] 179)
 have hres:=Blk.new w #[.int .u8 0, .int .i64 0, .slice none 0 0] 179
 have HR:=Lib.hid (h.keep hB)
 have hsz:(w.alloc (.cells #[.int .u8 0, .int .i64 0, .slice none 0 0] 179)).heap.size = w.heap.size + 1:=by simp
 have HSZ:=Lib.hid hsz
 obtain ⟨⟨tk,tx,tn,ta⟩,htk⟩:∃ tq,st.tok E = tq:=⟨_,rfl⟩
 have HTK:=Lib.hid htk
 clear h hB hsz htk
 go_enter Tryz.func349,Tryz.ntmps349
 go_wp2_with fail
 refine (next_c br E st _ HR.out).mono ?_
 rintro e w1 ⟨rfl,hb1⟩
 rw [HTK.out]
 dsimp only [Tok.agg]
 go_upto_region 2 with fail
 have hfA:=(Fr.of_new (S:=fun k => k = br) hb1).alloc (.cells #[.int .u8 tk, .string tx, .int .i64 tn, .int .i64 ta] 367)
 have hf1:=hF.trans hfA
 have h0:=hres.fr hfA (by omega)
 have hD:=(HR.out.keep hb1).keep ((Below.refl _ _).alloc (Nat.le_refl _) (.cells #[.int .u8 tk, .string tx, .int .i64 tn, .int .i64 ta] 367))
 have ht:=Blk.new w1 #[.int .u8 tk, .string tx, .int .i64 tn, .int .i64 ta] 367
 have hs1:=hb1.size
 rw [HSZ.out] at hs1
 have hs2:w.heap.size + 1 ≤ (w1.alloc (.cells #[.int .u8 tk, .string tx, .int .i64 tn, .int .i64 ta] 367)).heap.size:=by simp; omega
 generalize htb:w1.heap.size = tb at *
 generalize w1.alloc _ = W at *
 obtain ⟨v,a,hb,ha0,hsl⟩:=hD.ex
 have b2:=hb.cell 2
 have t0:=ht.cell 0
 have z0:=h0.cell 0
 have z1:=h0.cell 1
 have z2:=h0.cell 2
 have k0:=h0.free 0
 have k1:=h0.free 1
 have k2:=h0.free 2
 clear hfA hF hres hb1 htb HR HSZ
 rw [hbad] at b2
 have hkd:(tk == 2) = false:=by have:=PSt.numB_tok E st; rw [HTK.out,hnum] at this; exact this.symm
 have HD:=Lib.hid hD
 have H0:=Lib.hid h0
 have HG:=Lib.hid (Fr.refl (fun k => k = br) W)
 clear hb ha0 hsl h0 ht hbad hD hnum z0 z1 z2 k0 k1 k2
 go_wp2_with fail
 refine (is_yes br E st _ _ s_key _ h_key.out HD.out).mono ?_
 rintro e wY ⟨rfl,hd,hf⟩
 replace HD:=Lib.hid hd
 replace HG:=Lib.hid (HG.out.trans hf)
 clear hd hf
 have h0:=H0.out.fr HG.out (by omega)
 have z0:=h0.cell 0
 have z1:=h0.cell 1
 have z2:=h0.cell 2
 have k0:=h0.free 0
 have k1:=h0.free 1
 have k2:=h0.free 2
 go_wp2_with fail
 obtain ⟨p1,p2⟩:=prPost_pass (x := .mk 2 0 []) (w.heap.size + 1) hlr (by omega) h0 (.nil none 0 (Nat.zero_le _)) HD.out (hf1.trans HG.out)
 refine bodyPost_ret (v := .agg #[_,_,_]) (results_cell_row rfl _ _ w.heap.size 179 _ (0,0) _ rfl p2 Tryz.underlying179 rfl ?_) rfl p1
 as_aux_lemma => kernel_rfl
set_option maxRecDepth 100000 in
set_option maxHeartbeats 1000000 in
theorem one_val (br:Nat) (E:Int) (st:PSt) (w:World) (h:RdAt w br E st) (hbad:st.bad.isSome = false) (hnum:st.numB = false) (h_key:Hid (st.isB wKey = false)) (h_val:Hid (st.isB wVal = true)) :
  Calls Tryz.prog 349 #[.pointer (some ⟨br,0,none⟩)] w (PrPost w (fun w st => RdAt w br E st) br (.mk 3 0 [],st.next)):=by
 have hlr:=h.lt
 have hB:=(Below.refl _ w).alloc (Nat.le_refl _) (.cells #[.int .u8 0, .int .i64 0, .slice none 0 0] 179)
 have hF:=(Fr.refl (fun k => k = br) w).alloc (.cells #[.int .u8 0, .int .i64 0, .slice none 0 0] 179)
 have hres:=Blk.new w #[.int .u8 0, .int .i64 0, .slice none 0 0] 179
 have HR:=Lib.hid (h.keep hB)
 have hsz:(w.alloc (.cells #[.int .u8 0, .int .i64 0, .slice none 0 0] 179)).heap.size = w.heap.size + 1:=by simp
 have HSZ:=Lib.hid hsz
 obtain ⟨⟨tk,tx,tn,ta⟩,htk⟩:∃ tq,st.tok E = tq:=⟨_,rfl⟩
 have HTK:=Lib.hid htk
 clear h hB hsz htk
 go_enter Tryz.func349,Tryz.ntmps349
 go_wp2_with fail
 refine (next_c br E st _ HR.out).mono ?_
 rintro e w1 ⟨rfl,hb1⟩
 rw [HTK.out]
 dsimp only [Tok.agg]
 go_upto_region 2 with fail
 have hfA:=(Fr.of_new (S:=fun k => k = br) hb1).alloc (.cells #[.int .u8 tk, .string tx, .int .i64 tn, .int .i64 ta] 367)
 have hf1:=hF.trans hfA
 have h0:=hres.fr hfA (by omega)
 have hD:=(HR.out.keep hb1).keep ((Below.refl _ _).alloc (Nat.le_refl _) (.cells #[.int .u8 tk, .string tx, .int .i64 tn, .int .i64 ta] 367))
 have ht:=Blk.new w1 #[.int .u8 tk, .string tx, .int .i64 tn, .int .i64 ta] 367
 have hs1:=hb1.size
 rw [HSZ.out] at hs1
 have hs2:w.heap.size + 1 ≤ (w1.alloc (.cells #[.int .u8 tk, .string tx, .int .i64 tn, .int .i64 ta] 367)).heap.size:=by simp; omega
 generalize htb:w1.heap.size = tb at *
 generalize w1.alloc _ = W at *
 obtain ⟨v,a,hb,ha0,hsl⟩:=hD.ex
 have b2:=hb.cell 2
 have t0:=ht.cell 0
 have z0:=h0.cell 0
 have z1:=h0.cell 1
 have z2:=h0.cell 2
 have k0:=h0.free 0
 have k1:=h0.free 1
 have k2:=h0.free 2
 clear hfA hF hres hb1 htb HR HSZ
 rw [hbad] at b2
 have hkd:(tk == 2) = false:=by have:=PSt.numB_tok E st; rw [HTK.out,hnum] at this; exact this.symm
 have HD:=Lib.hid hD
 have H0:=Lib.hid h0
 have HG:=Lib.hid (Fr.refl (fun k => k = br) W)
 clear hb ha0 hsl h0 ht hbad hD hnum z0 z1 z2 k0 k1 k2
 go_wp2_with fail
 refine (is_no br E st _ _ s_key _ h_key.out HD.out).mono ?_
 rintro e w_key ⟨rfl,hd,hf⟩
 replace HD:=Lib.hid hd
 replace HG:=Lib.hid (HG.out.trans hf)
 clear hd hf
 go_wp2_with fail
 refine (is_yes br E st _ _ s_val _ h_val.out HD.out).mono ?_
 rintro e wY ⟨rfl,hd,hf⟩
 replace HD:=Lib.hid hd
 replace HG:=Lib.hid (HG.out.trans hf)
 clear hd hf
 have h0:=H0.out.fr HG.out (by omega)
 have z0:=h0.cell 0
 have z1:=h0.cell 1
 have z2:=h0.cell 2
 have k0:=h0.free 0
 have k1:=h0.free 1
 have k2:=h0.free 2
 go_wp2_with fail
 obtain ⟨p1,p2⟩:=prPost_pass (x := .mk 3 0 []) (w.heap.size + 1) hlr (by omega) h0 (.nil none 0 (Nat.zero_le _)) HD.out (hf1.trans HG.out)
 refine bodyPost_ret (v := .agg #[_,_,_]) (results_cell_row rfl _ _ w.heap.size 179 _ (0,0) _ rfl p2 Tryz.underlying179 rfl ?_) rfl p1
 as_aux_lemma => kernel_rfl
set_option maxRecDepth 100000 in
set_option maxHeartbeats 1000000 in
theorem one_acc (br:Nat) (E:Int) (st:PSt) (w:World) (h:RdAt w br E st) (hbad:st.bad.isSome = false) (hnum:st.numB = false) (h_key:Hid (st.isB wKey = false)) (h_val:Hid (st.isB wVal = false)) (h_acc:Hid (st.isB wAcc = true)) :
  Calls Tryz.prog 349 #[.pointer (some ⟨br,0,none⟩)] w (PrPost w (fun w st => RdAt w br E st) br (.mk 4 0 [],st.next)):=by
 have hlr:=h.lt
 have hB:=(Below.refl _ w).alloc (Nat.le_refl _) (.cells #[.int .u8 0, .int .i64 0, .slice none 0 0] 179)
 have hF:=(Fr.refl (fun k => k = br) w).alloc (.cells #[.int .u8 0, .int .i64 0, .slice none 0 0] 179)
 have hres:=Blk.new w #[.int .u8 0, .int .i64 0, .slice none 0 0] 179
 have HR:=Lib.hid (h.keep hB)
 have hsz:(w.alloc (.cells #[.int .u8 0, .int .i64 0, .slice none 0 0] 179)).heap.size = w.heap.size + 1:=by simp
 have HSZ:=Lib.hid hsz
 obtain ⟨⟨tk,tx,tn,ta⟩,htk⟩:∃ tq,st.tok E = tq:=⟨_,rfl⟩
 have HTK:=Lib.hid htk
 clear h hB hsz htk
 go_enter Tryz.func349,Tryz.ntmps349
 go_wp2_with fail
 refine (next_c br E st _ HR.out).mono ?_
 rintro e w1 ⟨rfl,hb1⟩
 rw [HTK.out]
 dsimp only [Tok.agg]
 go_upto_region 2 with fail
 have hfA:=(Fr.of_new (S:=fun k => k = br) hb1).alloc (.cells #[.int .u8 tk, .string tx, .int .i64 tn, .int .i64 ta] 367)
 have hf1:=hF.trans hfA
 have h0:=hres.fr hfA (by omega)
 have hD:=(HR.out.keep hb1).keep ((Below.refl _ _).alloc (Nat.le_refl _) (.cells #[.int .u8 tk, .string tx, .int .i64 tn, .int .i64 ta] 367))
 have ht:=Blk.new w1 #[.int .u8 tk, .string tx, .int .i64 tn, .int .i64 ta] 367
 have hs1:=hb1.size
 rw [HSZ.out] at hs1
 have hs2:w.heap.size + 1 ≤ (w1.alloc (.cells #[.int .u8 tk, .string tx, .int .i64 tn, .int .i64 ta] 367)).heap.size:=by simp; omega
 generalize htb:w1.heap.size = tb at *
 generalize w1.alloc _ = W at *
 obtain ⟨v,a,hb,ha0,hsl⟩:=hD.ex
 have b2:=hb.cell 2
 have t0:=ht.cell 0
 have z0:=h0.cell 0
 have z1:=h0.cell 1
 have z2:=h0.cell 2
 have k0:=h0.free 0
 have k1:=h0.free 1
 have k2:=h0.free 2
 clear hfA hF hres hb1 htb HR HSZ
 rw [hbad] at b2
 have hkd:(tk == 2) = false:=by have:=PSt.numB_tok E st; rw [HTK.out,hnum] at this; exact this.symm
 have HD:=Lib.hid hD
 have H0:=Lib.hid h0
 have HG:=Lib.hid (Fr.refl (fun k => k = br) W)
 clear hb ha0 hsl h0 ht hbad hD hnum z0 z1 z2 k0 k1 k2
 go_wp2_with fail
 refine (is_no br E st _ _ s_key _ h_key.out HD.out).mono ?_
 rintro e w_key ⟨rfl,hd,hf⟩
 replace HD:=Lib.hid hd
 replace HG:=Lib.hid (HG.out.trans hf)
 clear hd hf
 go_wp2_with fail
 refine (is_no br E st _ _ s_val _ h_val.out HD.out).mono ?_
 rintro e w_val ⟨rfl,hd,hf⟩
 replace HD:=Lib.hid hd
 replace HG:=Lib.hid (HG.out.trans hf)
 clear hd hf
 go_wp2_with fail
 refine (is_yes br E st _ _ s_acc _ h_acc.out HD.out).mono ?_
 rintro e wY ⟨rfl,hd,hf⟩
 replace HD:=Lib.hid hd
 replace HG:=Lib.hid (HG.out.trans hf)
 clear hd hf
 have h0:=H0.out.fr HG.out (by omega)
 have z0:=h0.cell 0
 have z1:=h0.cell 1
 have z2:=h0.cell 2
 have k0:=h0.free 0
 have k1:=h0.free 1
 have k2:=h0.free 2
 go_wp2_with fail
 obtain ⟨p1,p2⟩:=prPost_pass (x := .mk 4 0 []) (w.heap.size + 1) hlr (by omega) h0 (.nil none 0 (Nat.zero_le _)) HD.out (hf1.trans HG.out)
 refine bodyPost_ret (v := .agg #[_,_,_]) (results_cell_row rfl _ _ w.heap.size 179 _ (0,0) _ rfl p2 Tryz.underlying179 rfl ?_) rfl p1
 as_aux_lemma => kernel_rfl
set_option maxRecDepth 100000 in
set_option maxHeartbeats 1000000 in
theorem one_fails (br:Nat) (E:Int) (st:PSt) (w:World) (h:RdAt w br E st) (hbad:st.bad.isSome = false) (hnum:st.numB = false) (h_key:Hid (st.isB wKey = false)) (h_val:Hid (st.isB wVal = false)) (h_acc:Hid (st.isB wAcc = false)) (h_open:Hid (st.isB [40] = false)) (h_if:Hid (st.isB wIf = false)) :
  Calls Tryz.prog 349 #[.pointer (some ⟨br,0,none⟩)] w (PrPost w (fun w st => RdAt w br E st) br (Ex.zero,st.fails E)):=by
 have hlr:=h.lt
 have hB:=(Below.refl _ w).alloc (Nat.le_refl _) (.cells #[.int .u8 0, .int .i64 0, .slice none 0 0] 179)
 have hF:=(Fr.refl (fun k => k = br) w).alloc (.cells #[.int .u8 0, .int .i64 0, .slice none 0 0] 179)
 have hres:=Blk.new w #[.int .u8 0, .int .i64 0, .slice none 0 0] 179
 have HR:=Lib.hid (h.keep hB)
 have hsz:(w.alloc (.cells #[.int .u8 0, .int .i64 0, .slice none 0 0] 179)).heap.size = w.heap.size + 1:=by simp
 have HSZ:=Lib.hid hsz
 obtain ⟨⟨tk,tx,tn,ta⟩,htk⟩:∃ tq,st.tok E = tq:=⟨_,rfl⟩
 have HTK:=Lib.hid htk
 clear h hB hsz htk
 go_enter Tryz.func349,Tryz.ntmps349
 go_wp2_with fail
 refine (next_c br E st _ HR.out).mono ?_
 rintro e w1 ⟨rfl,hb1⟩
 rw [HTK.out]
 dsimp only [Tok.agg]
 go_upto_region 2 with fail
 have hfA:=(Fr.of_new (S:=fun k => k = br) hb1).alloc (.cells #[.int .u8 tk, .string tx, .int .i64 tn, .int .i64 ta] 367)
 have hf1:=hF.trans hfA
 have h0:=hres.fr hfA (by omega)
 have hD:=(HR.out.keep hb1).keep ((Below.refl _ _).alloc (Nat.le_refl _) (.cells #[.int .u8 tk, .string tx, .int .i64 tn, .int .i64 ta] 367))
 have ht:=Blk.new w1 #[.int .u8 tk, .string tx, .int .i64 tn, .int .i64 ta] 367
 have hs1:=hb1.size
 rw [HSZ.out] at hs1
 have hs2:w.heap.size + 1 ≤ (w1.alloc (.cells #[.int .u8 tk, .string tx, .int .i64 tn, .int .i64 ta] 367)).heap.size:=by simp; omega
 generalize htb:w1.heap.size = tb at *
 generalize w1.alloc _ = W at *
 obtain ⟨v,a,hb,ha0,hsl⟩:=hD.ex
 have b2:=hb.cell 2
 have t0:=ht.cell 0
 have z0:=h0.cell 0
 have z1:=h0.cell 1
 have z2:=h0.cell 2
 have k0:=h0.free 0
 have k1:=h0.free 1
 have k2:=h0.free 2
 clear hfA hF hres hb1 htb HR HSZ
 rw [hbad] at b2
 have hkd:(tk == 2) = false:=by have:=PSt.numB_tok E st; rw [HTK.out,hnum] at this; exact this.symm
 have HD:=Lib.hid hD
 have H0:=Lib.hid h0
 have HG:=Lib.hid (Fr.refl (fun k => k = br) W)
 clear hb ha0 hsl h0 ht hbad hD hnum z0 z1 z2 k0 k1 k2
 go_wp2_with fail
 refine (is_no br E st _ _ s_key _ h_key.out HD.out).mono ?_
 rintro e w_key ⟨rfl,hd,hf⟩
 replace HD:=Lib.hid hd
 replace HG:=Lib.hid (HG.out.trans hf)
 clear hd hf
 go_wp2_with fail
 refine (is_no br E st _ _ s_val _ h_val.out HD.out).mono ?_
 rintro e w_val ⟨rfl,hd,hf⟩
 replace HD:=Lib.hid hd
 replace HG:=Lib.hid (HG.out.trans hf)
 clear hd hf
 go_wp2_with fail
 refine (is_no br E st _ _ s_acc _ h_acc.out HD.out).mono ?_
 rintro e w_acc ⟨rfl,hd,hf⟩
 replace HD:=Lib.hid hd
 replace HG:=Lib.hid (HG.out.trans hf)
 clear hd hf
 go_wp2_with fail
 refine (is_no br E st _ _ s_open _ h_open.out HD.out).mono ?_
 rintro e w_open ⟨rfl,hd,hf⟩
 replace HD:=Lib.hid hd
 replace HG:=Lib.hid (HG.out.trans hf)
 clear hd hf
 go_wp2_with fail
 refine (is_no br E st _ _ s_if _ h_if.out HD.out).mono ?_
 rintro e w_if ⟨rfl,hd,hf⟩
 replace HD:=Lib.hid hd
 replace HG:=Lib.hid (HG.out.trans hf)
 clear hd hf
 go_wp2_with fail
 refine (fails_c br E st _ HD.out).mono ?_
 rintro e wY ⟨rfl,hd,hf⟩
 replace HD:=Lib.hid hd
 replace HG:=Lib.hid (HG.out.trans hf)
 clear hd hf
 have h0:=H0.out.fr HG.out (by omega)
 have z0:=h0.cell 0
 have z1:=h0.cell 1
 have z2:=h0.cell 2
 have k0:=h0.free 0
 have k1:=h0.free 1
 have k2:=h0.free 2
 go_wp2_with fail
 obtain ⟨p1,p2⟩:=prPost_pass (x:=Ex.zero) (w.heap.size + 1) hlr (by omega) h0 (.nil none 0 (Nat.zero_le _)) HD.out (hf1.trans HG.out)
 refine bodyPost_ret (v := .agg #[_,_,_]) (results_cell_row rfl _ _ w.heap.size 179 _ (0,0) _ rfl p2 Tryz.underlying179 rfl ?_) rfl p1
 as_aux_lemma => kernel_rfl
set_option maxRecDepth 100000 in
set_option maxHeartbeats 1000000 in
theorem one_open (br:Nat) (E:Int) (st:PSt) (w:World) (h:RdAt w br E st) (hbad:st.bad.isSome = false) (hnum:st.numB = false) (h_key:Hid (st.isB wKey = false)) (h_val:Hid (st.isB wVal = false)) (h_acc:Hid (st.isB wAcc = false)) (h_open:Hid (st.isB [40] = true)) (h00:Hid (∀ n,n < st.l.length → PrC 257 br E (prF E 0) n)) :
  Calls Tryz.prog 349 #[.pointer (some ⟨br,0,none⟩)] w (PrPost w (fun w st => RdAt w br E st) br ((prF E 0 st.next).1,(prF E 0 st.next).2.must E [41])):=by
 have HL:=Lib.hid (PSt.next_lt h_open.out)
 have hlr:=h.lt
 have hB:=(Below.refl _ w).alloc (Nat.le_refl _) (.cells #[.int .u8 0, .int .i64 0, .slice none 0 0] 179)
 have hF:=(Fr.refl (fun k => k = br) w).alloc (.cells #[.int .u8 0, .int .i64 0, .slice none 0 0] 179)
 have hres:=Blk.new w #[.int .u8 0, .int .i64 0, .slice none 0 0] 179
 have HR:=Lib.hid (h.keep hB)
 have hsz:(w.alloc (.cells #[.int .u8 0, .int .i64 0, .slice none 0 0] 179)).heap.size = w.heap.size + 1:=by simp
 have HSZ:=Lib.hid hsz
 obtain ⟨⟨tk,tx,tn,ta⟩,htk⟩:∃ tq,st.tok E = tq:=⟨_,rfl⟩
 have HTK:=Lib.hid htk
 clear h hB hsz htk
 go_enter Tryz.func349,Tryz.ntmps349
 go_wp2_with fail
 refine (next_c br E st _ HR.out).mono ?_
 rintro e w1 ⟨rfl,hb1⟩
 rw [HTK.out]
 dsimp only [Tok.agg]
 go_upto_region 2 with fail
 have hfA:=(Fr.of_new (S:=fun k => k = br) hb1).alloc (.cells #[.int .u8 tk, .string tx, .int .i64 tn, .int .i64 ta] 367)
 have hf1:=hF.trans hfA
 have h0:=hres.fr hfA (by omega)
 have hD:=(HR.out.keep hb1).keep ((Below.refl _ _).alloc (Nat.le_refl _) (.cells #[.int .u8 tk, .string tx, .int .i64 tn, .int .i64 ta] 367))
 have ht:=Blk.new w1 #[.int .u8 tk, .string tx, .int .i64 tn, .int .i64 ta] 367
 have hs1:=hb1.size
 rw [HSZ.out] at hs1
 have hs2:w.heap.size + 1 ≤ (w1.alloc (.cells #[.int .u8 tk, .string tx, .int .i64 tn, .int .i64 ta] 367)).heap.size:=by simp; omega
 generalize htb:w1.heap.size = tb at *
 generalize w1.alloc _ = W at *
 obtain ⟨v,a,hb,ha0,hsl⟩:=hD.ex
 have b2:=hb.cell 2
 have t0:=ht.cell 0
 have z0:=h0.cell 0
 have z1:=h0.cell 1
 have z2:=h0.cell 2
 have k0:=h0.free 0
 have k1:=h0.free 1
 have k2:=h0.free 2
 clear hfA hF hres hb1 htb HR HSZ
 rw [hbad] at b2
 have hkd:(tk == 2) = false:=by have:=PSt.numB_tok E st; rw [HTK.out,hnum] at this; exact this.symm
 have HD:=Lib.hid hD
 have H0:=Lib.hid h0
 have HG:=Lib.hid (Fr.refl (fun k => k = br) W)
 clear hb ha0 hsl h0 ht hbad hD hnum z0 z1 z2 k0 k1 k2
 go_wp2_with fail
 refine (is_no br E st _ _ s_key _ h_key.out HD.out).mono ?_
 rintro e w_key ⟨rfl,hd,hf⟩
 replace HD:=Lib.hid hd
 replace HG:=Lib.hid (HG.out.trans hf)
 clear hd hf
 go_wp2_with fail
 refine (is_no br E st _ _ s_val _ h_val.out HD.out).mono ?_
 rintro e w_val ⟨rfl,hd,hf⟩
 replace HD:=Lib.hid hd
 replace HG:=Lib.hid (HG.out.trans hf)
 clear hd hf
 go_wp2_with fail
 refine (is_no br E st _ _ s_acc _ h_acc.out HD.out).mono ?_
 rintro e w_acc ⟨rfl,hd,hf⟩
 replace HD:=Lib.hid hd
 replace HG:=Lib.hid (HG.out.trans hf)
 clear hd hf
 go_wp2_with fail
 refine (is_yes br E st _ _ s_open _ h_open.out HD.out).mono ?_
 rintro e wY ⟨rfl,hd,hf⟩
 replace HD:=Lib.hid hd
 replace HG:=Lib.hid (HG.out.trans hf)
 clear hd hf
 have hsY:=HG.out.size
 go_wp2_with fail
 refine (h00.out _ HL.out st.next _ (Nat.le_refl _) HD.out).mono ?_
 rintro e wO ⟨_,rfl,haO,hrO,hfO⟩
 obtain ⟨a9,n9,c9,rfl⟩:=haO.slice
 go_upto_region 15 with fail
 have hA:=(Fr.refl (fun k => k = br) wO).alloc (.cells #[.int .u8 (prF E 0 st.next).1.op, .int .i64 (prF E 0 st.next).1.n, .slice a9 n9 c9] 179)
 have hX:=Blk.new wO #[.int .u8 (prF E 0 st.next).1.op, .int .i64 (prF E 0 st.next).1.n, .slice a9 n9 c9] 179
 have hsO:=hfO.size
 generalize hxb:wO.heap.size = xb at *
 replace HG:=Lib.hid ((HG.out.trans hfO).trans hA)
 replace HD:=Lib.hid (hrO.keep ((Below.refl _ _).alloc (Nat.le_refl _) (.cells #[.int .u8 (prF E 0 st.next).1.op, .int .i64 (prF E 0 st.next).1.n, .slice a9 n9 c9] 179)))
 have ha:=Lib.hid (haO.fr (Q:=fun b => wY.heap.size ≤ b ∧ b < xb) hA (fun b hb => ⟨by omega,by omega⟩) (fun b hb => ⟨hb.1,by omega⟩))
 have hs5:xb < (wO.alloc (.cells #[.int .u8 (prF E 0 st.next).1.op, .int .i64 (prF E 0 st.next).1.n, .slice a9 n9 c9] 179)).heap.size:=hX.lt
 generalize wO.alloc _ = W5 at *
 clear haO hrO hfO hA hxb
 go_wp2_with fail
 refine (must_l br E _ _ _ s_shut _ HD.out).mono ?_
 rintro e wM ⟨rfl,hd,hf⟩
 replace HD:=Lib.hid hd
 replace HG:=Lib.hid (HG.out.trans hf)
 have hX2:=hX.fr hf (by omega)
 have x0:=hX2.cell 0
 have x1:=hX2.cell 1
 have x2:=hX2.cell 2
 have h0:=H0.out.fr HG.out (by omega)
 have hsM:=hf.size
 have ha2:=Lib.hid (ha.out.fr (Q:=fun b => wY.heap.size ≤ b ∧ b < wM.heap.size) hf (fun b hb => ⟨by omega,by omega⟩) (fun b hb => ⟨hb.1,by omega⟩))
 clear hd hf hX hX2
 have z0:=h0.cell 0
 have z1:=h0.cell 1
 have z2:=h0.cell 2
 have k0:=h0.free 0
 have k1:=h0.free 1
 have k2:=h0.free 2
 go_wp2_with fail
 obtain ⟨p1,p2⟩:=prPost_pass (x:=(prF E 0 st.next).1) wY.heap.size hlr (by omega) h0 ha2.out HD.out (hf1.trans HG.out)
 refine bodyPost_ret (v := .agg #[_,_,_]) (results_cell_row rfl _ _ w.heap.size 179 _ (0,0) _ rfl p2 Tryz.underlying179 rfl ?_) rfl p1
 as_aux_lemma => kernel_rfl
set_option maxRecDepth 100000 in
set_option maxHeartbeats 1000000 in
theorem one_if (br:Nat) (E:Int) (st:PSt) (w:World) (h:RdAt w br E st) (hbad:st.bad.isSome = false) (hnum:st.numB = false) (h_key:Hid (st.isB wKey = false)) (h_val:Hid (st.isB wVal = false)) (h_acc:Hid (st.isB wAcc = false)) (h_open:Hid (st.isB [40] = false)) (h_if:Hid (st.isB wIf = true)) (h00:Hid (∀ n,n < st.l.length → PrC 257 br E (prF E 0) n)) :
  Calls Tryz.prog 349 #[.pointer (some ⟨br,0,none⟩)] w (PrPost w (fun w st => RdAt w br E st) br (prIf E (prF E) st.next)):=by
 have HL:=Lib.hid (PSt.next_lt h_if.out)
 have HL2:=Lib.hid (Nat.le_trans (PSt.must_le E (prF E 0 st.next).2 wThen) (prF_len E 0 st.next))
 have HL3:=Lib.hid (Nat.le_trans (Nat.le_trans (PSt.must_le E (prF E 0 ((prF E 0 st.next).2.must E wThen)).2 wElse) (prF_len E 0 ((prF E 0 st.next).2.must E wThen))) HL2.out)
 have HE:Hid (prIf E (prF E) st.next = (.mk 18 0 [(prF E 0 st.next).1,(prF E 0 ((prF E 0 st.next).2.must E wThen)).1,(prF E 0 ((prF E 0 ((prF E 0 st.next).2.must E wThen)).2.must E wElse)).1],(prF E 0 ((prF E 0 ((prF E 0 st.next).2.must E wThen)).2.must E wElse)).2)):=rfl
 generalize prIf E (prF E) st.next = target at *
 obtain ⟨pa,hpa⟩:∃ p,prF E 0 st.next = p:=⟨_,rfl⟩
 rw [hpa] at HL2 HL3 HE
 obtain ⟨s2,hs2q⟩:∃ s,pa.2.must E wThen = s:=⟨_,rfl⟩
 rw [hs2q] at HL2 HL3 HE
 obtain ⟨pb,hpb⟩:∃ p,prF E 0 s2 = p:=⟨_,rfl⟩
 rw [hpb] at HL3 HE
 obtain ⟨s3,hs3q⟩:∃ s,pb.2.must E wElse = s:=⟨_,rfl⟩
 rw [hs3q] at HL3 HE
 obtain ⟨pc,hpc⟩:∃ p,prF E 0 s3 = p:=⟨_,rfl⟩
 rw [hpc] at HE
 have HPA:=Lib.hid hpa
 have HPB:=Lib.hid hpb
 have HPC:=Lib.hid hpc
 have HS2:=Lib.hid hs2q
 have HS3:=Lib.hid hs3q
 clear hpa hpb hpc hs2q hs3q
 have hlr:=h.lt
 have hB:=(Below.refl _ w).alloc (Nat.le_refl _) (.cells #[.int .u8 0, .int .i64 0, .slice none 0 0] 179)
 have hF:=(Fr.refl (fun k => k = br) w).alloc (.cells #[.int .u8 0, .int .i64 0, .slice none 0 0] 179)
 have hres:=Blk.new w #[.int .u8 0, .int .i64 0, .slice none 0 0] 179
 have HR:=Lib.hid (h.keep hB)
 have hsz:(w.alloc (.cells #[.int .u8 0, .int .i64 0, .slice none 0 0] 179)).heap.size = w.heap.size + 1:=by simp
 have HSZ:=Lib.hid hsz
 obtain ⟨⟨tk,tx,tn,ta⟩,htk⟩:∃ tq,st.tok E = tq:=⟨_,rfl⟩
 have HTK:=Lib.hid htk
 clear h hB hsz htk
 go_enter Tryz.func349,Tryz.ntmps349
 go_wp2_with fail
 refine (next_c br E st _ HR.out).mono ?_
 rintro e w1 ⟨rfl,hb1⟩
 rw [HTK.out]
 dsimp only [Tok.agg]
 go_upto_region 2 with fail
 have hfA:=(Fr.of_new (S:=fun k => k = br) hb1).alloc (.cells #[.int .u8 tk, .string tx, .int .i64 tn, .int .i64 ta] 367)
 have hf1:=hF.trans hfA
 have h0:=hres.fr hfA (by omega)
 have hD:=(HR.out.keep hb1).keep ((Below.refl _ _).alloc (Nat.le_refl _) (.cells #[.int .u8 tk, .string tx, .int .i64 tn, .int .i64 ta] 367))
 have ht:=Blk.new w1 #[.int .u8 tk, .string tx, .int .i64 tn, .int .i64 ta] 367
 have hs1:=hb1.size
 rw [HSZ.out] at hs1
 have hs2:w.heap.size + 1 ≤ (w1.alloc (.cells #[.int .u8 tk, .string tx, .int .i64 tn, .int .i64 ta] 367)).heap.size:=by simp; omega
 generalize htb:w1.heap.size = tb at *
 generalize w1.alloc _ = W at *
 obtain ⟨v,a,hb,ha0,hsl⟩:=hD.ex
 have b2:=hb.cell 2
 have t0:=ht.cell 0
 have z0:=h0.cell 0
 have z1:=h0.cell 1
 have z2:=h0.cell 2
 have k0:=h0.free 0
 have k1:=h0.free 1
 have k2:=h0.free 2
 clear hfA hF hres hb1 htb HR HSZ
 rw [hbad] at b2
 have hkd:(tk == 2) = false:=by have:=PSt.numB_tok E st; rw [HTK.out,hnum] at this; exact this.symm
 have HD:=Lib.hid hD
 have H0:=Lib.hid h0
 have HG:=Lib.hid (Fr.refl (fun k => k = br) W)
 clear hb ha0 hsl h0 ht hbad hD hnum z0 z1 z2 k0 k1 k2
 go_wp2_with fail
 refine (is_no br E st _ _ s_key _ h_key.out HD.out).mono ?_
 rintro e w_key ⟨rfl,hd,hf⟩
 replace HD:=Lib.hid hd
 replace HG:=Lib.hid (HG.out.trans hf)
 clear hd hf
 go_wp2_with fail
 refine (is_no br E st _ _ s_val _ h_val.out HD.out).mono ?_
 rintro e w_val ⟨rfl,hd,hf⟩
 replace HD:=Lib.hid hd
 replace HG:=Lib.hid (HG.out.trans hf)
 clear hd hf
 go_wp2_with fail
 refine (is_no br E st _ _ s_acc _ h_acc.out HD.out).mono ?_
 rintro e w_acc ⟨rfl,hd,hf⟩
 replace HD:=Lib.hid hd
 replace HG:=Lib.hid (HG.out.trans hf)
 clear hd hf
 go_wp2_with fail
 refine (is_no br E st _ _ s_open _ h_open.out HD.out).mono ?_
 rintro e w_open ⟨rfl,hd,hf⟩
 replace HD:=Lib.hid hd
 replace HG:=Lib.hid (HG.out.trans hf)
 clear hd hf
 go_wp2_with fail
 refine (is_yes br E st _ _ s_if _ h_if.out HD.out).mono ?_
 rintro e wY ⟨rfl,hd,hf⟩
 replace HD:=Lib.hid hd
 replace HG:=Lib.hid (HG.out.trans hf)
 clear hd hf
 have hsY:=HG.out.size
 go_wp2_with fail
 refine (h00.out _ HL.out st.next _ (Nat.le_refl _) HD.out).mono ?_
 rw [HPA.out]
 rintro e wO ⟨_,rfl,haO,hrO,hfO⟩
 obtain ⟨a1,n1,c1,rfl⟩:=haO.slice
 go_upto_region 19 with fail
 have hA:=(Fr.refl (fun k => k = br) wO).alloc (.cells #[.int .u8 pa.1.op, .int .i64 pa.1.n, .slice a1 n1 c1] 179)
 have hX:=Blk.new wO #[.int .u8 pa.1.op, .int .i64 pa.1.n, .slice a1 n1 c1] 179
 have hsO:=hfO.size
 generalize hxb:wO.heap.size = xb at *
 replace HG:=Lib.hid ((HG.out.trans hfO).trans hA)
 replace HD:=Lib.hid (hrO.keep ((Below.refl _ _).alloc (Nat.le_refl _) (.cells #[.int .u8 pa.1.op, .int .i64 pa.1.n, .slice a1 n1 c1] 179)))
 have ha:=Lib.hid (haO.fr (Q:=fun b => wY.heap.size ≤ b ∧ b < xb) hA (fun b hb => ⟨by omega,by omega⟩) (fun b hb => ⟨hb.1,by omega⟩))
 have hs5:xb < (wO.alloc (.cells #[.int .u8 pa.1.op, .int .i64 pa.1.n, .slice a1 n1 c1] 179)).heap.size:=hX.lt
 generalize wO.alloc _ = W5 at *
 have HX:=Lib.hid hX
 clear haO hrO hfO hA hxb hX
 go_wp2_with fail
 refine (must_l br E _ _ _ s_then _ HD.out).mono ?_
 rw [HS2.out]
 rintro e wM ⟨rfl,hd,hf⟩
 replace HD:=Lib.hid hd
 replace HG:=Lib.hid (HG.out.trans hf)
 replace HX:=Lib.hid (HX.out.fr hf (by omega))
 have hsM:=hf.size
 replace ha:=Lib.hid (ha.out.fr (Q:=fun b => wY.heap.size ≤ b ∧ b < xb) hf (fun b hb => ⟨by omega,by omega⟩) (fun b hb => hb))
 clear hd hf
 go_wp2_with fail
 refine (h00.out _ HL.out s2 _ HL2.out HD.out).mono ?_
 rw [HPB.out]
 rintro e wP ⟨_,rfl,haO,hrO,hfO⟩
 obtain ⟨a2,n2,c2,rfl⟩:=haO.slice
 go_upto_region 21 with fail
 have hA:=(Fr.refl (fun k => k = br) wP).alloc (.cells #[.int .u8 pb.1.op, .int .i64 pb.1.n, .slice a2 n2 c2] 179)
 have hX:=Blk.new wP #[.int .u8 pb.1.op, .int .i64 pb.1.n, .slice a2 n2 c2] 179
 have hsP:=hfO.size
 generalize hxb:wP.heap.size = yb at *
 replace HG:=Lib.hid ((HG.out.trans hfO).trans hA)
 replace HD:=Lib.hid (hrO.keep ((Below.refl _ _).alloc (Nat.le_refl _) (.cells #[.int .u8 pb.1.op, .int .i64 pb.1.n, .slice a2 n2 c2] 179)))
 replace HX:=Lib.hid (HX.out.fr (hfO.trans hA) (by omega))
 replace ha:=Lib.hid (ha.out.fr (Q:=fun b => wY.heap.size ≤ b ∧ b < xb) (hfO.trans hA) (fun b hb => ⟨by omega,by omega⟩) (fun b hb => hb))
 have hb3:=Lib.hid (haO.fr (Q:=fun b => wY.heap.size ≤ b ∧ b < yb) hA (fun b hb => ⟨by omega,by omega⟩) (fun b hb => ⟨by omega,by omega⟩))
 have hs7:yb < (wP.alloc (.cells #[.int .u8 pb.1.op, .int .i64 pb.1.n, .slice a2 n2 c2] 179)).heap.size:=hX.lt
 generalize wP.alloc _ = W7 at *
 have HY:=Lib.hid hX
 clear haO hrO hfO hA hxb hX
 go_wp2_with fail
 refine (must_l br E _ _ _ s_else _ HD.out).mono ?_
 rw [HS3.out]
 rintro e wE ⟨rfl,hd,hf⟩
 replace HD:=Lib.hid hd
 replace HG:=Lib.hid (HG.out.trans hf)
 replace HX:=Lib.hid (HX.out.fr hf (by omega))
 replace HY:=Lib.hid (HY.out.fr hf (by omega))
 have hsE:=hf.size
 replace ha:=Lib.hid (ha.out.fr (Q:=fun b => wY.heap.size ≤ b ∧ b < xb) hf (fun b hb => ⟨by omega,by omega⟩) (fun b hb => hb))
 replace hb3:=Lib.hid (hb3.out.fr (Q:=fun b => wY.heap.size ≤ b ∧ b < yb) hf (fun b hb => ⟨by omega,by omega⟩) (fun b hb => hb))
 have H0E:=Lib.hid (H0.out.fr HG.out (by omega))
 have x0:=HX.out.cell 0
 have x1:=HX.out.cell 1
 have x2:=HX.out.cell 2
 have y0:=HY.out.cell 0
 have y1:=HY.out.cell 1
 have y2:=HY.out.cell 2
 clear hd hf
 go_upto_region 22 with fail
 go_region_with (refine (h00.out _ HL.out s3 _ HL3.out (HD.out.keep (Below.refl _ wE).drew)).mono ?_; rw [HPC.out]; rintro e w9 ⟨_,rfl,ha9,hr9,hf9⟩; obtain ⟨a9,n9,c9,rfl⟩:=ha9.slice; have hD9:=(Fr.refl (fun k => k = br) wE).drew.trans hf9; have hs9:=hD9.size; have h0:=H0E.out.fr hD9 (by omega); have z0:=h0.cell 0; have z1:=h0.cell 1; have z2:=h0.cell 2; have k0:=h0.free 0; have k1:=h0.free 1; have k2:=h0.free 2; have hX9:=HX.out.fr hD9 (by omega); have p0:=hX9.cell 0; have p1:=hX9.cell 1; have p2:=hX9.cell 2; have hY9:=HY.out.fr hD9 (by omega); have q0:=hY9.cell 0; have q1:=hY9.cell 1; have q2:=hY9.cell 2; have hl9:=h0.lt; have hlx:=hX9.lt; have hly:=hY9.lt)
 all_goals
  go_wp2_with fail
  have ha':=ha.out.fr (Q:=fun b => wY.heap.size ≤ b ∧ b < w9.heap.size) hD9 (fun b hb => ⟨by omega,by omega⟩) (fun b hb => ⟨hb.1,by omega⟩)
  have hb':=hb3.out.fr (Q:=fun b => wY.heap.size ≤ b ∧ b < w9.heap.size) hD9 (fun b hb => ⟨by omega,by omega⟩) (fun b hb => ⟨hb.1,by omega⟩)
  have hc':=ha9.mono (Q:=fun b => wY.heap.size ≤ b ∧ b < w9.heap.size) (fun b hb => ⟨by have:=hb.1; simp at this; omega,hb.2⟩)
  obtain ⟨e1,e2⟩:=prPost_new (op:=18) (l:=[pa.1,pb.1,pc.1]) (n:=3) wY.heap.size hlr (by omega) h0 hr9 ((hf1.trans HG.out).trans hD9) (fun W P hb hP hk => ArgsIn.three hb hP (hk _ _ ha') (hk _ _ hb') (hk _ _ hc'))
  rw [HE.out]
  refine bodyPost_ret (v := .agg #[_,_,_]) (results_cell_row rfl _ _ w.heap.size 179 _ (0,0) _ rfl e2 Tryz.underlying179 rfl ?_) rfl e1
  as_aux_lemma => kernel_rfl
set_option maxRecDepth 100000 in
set_option maxHeartbeats 1000000 in
theorem one_num (br:Nat) (E:Int) (st:PSt) (w:World) (h:RdAt w br E st) (hbad:st.bad.isSome = false) (hnum:st.numB = true) :
  Calls Tryz.prog 349 #[.pointer (some ⟨br,0,none⟩)] w (PrPost w (fun w st => RdAt w br E st) br (.mk 1 st.numN [],st.next)):=by
 obtain ⟨l,bad⟩:=st
 obtain rfl:bad = none:=by cases bad <;> simp_all
 cases l with
 | nil => simp [PSt.numB] at hnum
 | cons t l =>
  have hlr:=h.lt
  have hB:=(Below.refl _ w).alloc (Nat.le_refl _) (.cells #[.int .u8 0, .int .i64 0, .slice none 0 0] 179)
  have hF:=(Fr.refl (fun k => k = br) w).alloc (.cells #[.int .u8 0, .int .i64 0, .slice none 0 0] 179)
  have hres:=Blk.new w #[.int .u8 0, .int .i64 0, .slice none 0 0] 179
  have HR:=Lib.hid (h.keep hB)
  have hsz:(w.alloc (.cells #[.int .u8 0, .int .i64 0, .slice none 0 0] 179)).heap.size = w.heap.size + 1:=by simp
  have HSZ:=Lib.hid hsz
  obtain ⟨⟨tk,tx,tn,ta⟩,htk⟩:∃ tq,PSt.tok E ⟨t :: l,none⟩ = tq:=⟨_,rfl⟩
  have HTK:=Lib.hid htk
  clear h hB hsz htk
  go_enter Tryz.func349,Tryz.ntmps349
  go_wp2_with fail
  refine (next_c br E _ _ HR.out).mono ?_
  rintro e w1 ⟨rfl,hb1⟩
  rw [HTK.out]
  dsimp only [Tok.agg]
  go_upto_region 2 with fail
  have hfA:=(Fr.of_new (S:=fun k => k = br) hb1).alloc (.cells #[.int .u8 tk, .string tx, .int .i64 tn, .int .i64 ta] 367)
  have hf1:=hF.trans hfA
  have h0:=hres.fr hfA (by omega)
  have hD:=(HR.out.keep hb1).keep ((Below.refl _ _).alloc (Nat.le_refl _) (.cells #[.int .u8 tk, .string tx, .int .i64 tn, .int .i64 ta] 367))
  have ht:=Blk.new w1 #[.int .u8 tk, .string tx, .int .i64 tn, .int .i64 ta] 367
  have hs1:=hb1.size
  rw [HSZ.out] at hs1
  have hs2:w.heap.size + 1 ≤ (w1.alloc (.cells #[.int .u8 tk, .string tx, .int .i64 tn, .int .i64 ta] 367)).heap.size:=by simp; omega
  generalize htb:w1.heap.size = tb at *
  generalize w1.alloc _ = W at *
  obtain ⟨v,a,hb,ha0,hsl⟩:=hD.ex
  have b2:=hb.cell 2
  have t0:=ht.cell 0
  have z0:=h0.cell 0
  have z1:=h0.cell 1
  have z2:=h0.cell 2
  have k0:=h0.free 0
  have k1:=h0.free 1
  have k2:=h0.free 2
  clear hfA hF hres hb1 htb HR HSZ
  have hkd:(tk == 2) = true:=by have:=PSt.numB_tok E ⟨t :: l,none⟩; rw [HTK.out,hnum] at this; exact this.symm
  have htt:t = ⟨tk,tx,tn,ta⟩:=HTK.out
  have hEN:Hid ((Ex.mk 1 (PSt.numN ⟨t :: l,none⟩) [],PSt.next ⟨t :: l,none⟩) = (Ex.mk 1 tn [],(⟨l,none⟩:PSt))):=by subst htt; rfl
  have HTT:=Lib.hid htt
  clear htt
  simp only [List.length_cons] at hsl
  obtain ⟨b,off,cap,rfl,_,d0,_,_,_⟩:=hsl.tok 0 (by omega)
  clear d0
  have hcap:l.length + 1 ≤ cap ∧ cap ≤ maxLen:=by
   obtain ⟨_,a',cap',hv,h2,h3,_⟩:=id hsl
   simp only [Value.slice.injEq] at hv
   omega
  obtain ⟨hc1,hc2⟩:=hcap
  unfold maxLen at hc2
  simp only [Option.isSome_none] at hb b2
  have b0:=hb.cell 0
  have f0:=hb.free 0
  have t2:=ht.cell 2
  have HB:=Lib.hid hb
  have H0:=Lib.hid h0
  have HSL:=Lib.hid hsl
  have HA:=Lib.hid ha0
  have hlW:=hb.lt
  have hlT:=ht.lt
  have hl0:=h0.lt
  generalize hm:l.length = m at *
  have HM:=Lib.hid hm
  clear hm hb ha0 hsl h0 ht hD hnum hbad
  by_cases h1c:cap = 1
  all_goals
   go_wp2_with fail
  ·obtain rfl:=HM.out
   have hN:=RdAt.next (A:=some ⟨b,off,none⟩) (bad:=none) HB.out HA.out HSL.out (fun h => by omega)
   rw [h1c] at hN
   rw [hEN.out]
   have h0':=H0.out.other (p:=⟨br,0,none⟩) (by show w.heap.size ≠ br; omega) (.slice (some ⟨b,off,none⟩) l.length (1 - 1))
   obtain ⟨p1,p2⟩:=prPost_pass (x := .mk 1 tn []) (w.heap.size + 1) hlr (by omega) h0' (.nil none 0 (Nat.zero_le _)) hN (hf1.setCell (p:=⟨br,0,none⟩) (.inl rfl) _)
   refine bodyPost_ret (v := .agg #[_,_,_]) (results_cell_row rfl _ _ w.heap.size 179 _ (0,0) _ rfl p2 Tryz.underlying179 rfl ?_) rfl p1
   as_aux_lemma => kernel_rfl
  ·obtain rfl:=HM.out
   have hN:=RdAt.next (A:=some ⟨b,off + 4,none⟩) (bad:=none) HB.out HA.out HSL.out (fun _ => rfl)
   rw [hEN.out]
   have h0':=H0.out.other (p:=⟨br,0,none⟩) (by show w.heap.size ≠ br; omega) (.slice (some ⟨b,off + 4,none⟩) l.length (cap - 1))
   obtain ⟨p1,p2⟩:=prPost_pass (x := .mk 1 tn []) (w.heap.size + 1) hlr (by omega) h0' (.nil none 0 (Nat.zero_le _)) hN (hf1.setCell (p:=⟨br,0,none⟩) (.inl rfl) _)
   refine bodyPost_ret (v := .agg #[_,_,_]) (results_cell_row rfl _ _ w.heap.size 179 _ (0,0) _ rfl p2 Tryz.underlying179 rfl ?_) rfl p1
   as_aux_lemma => kernel_rfl
def lvF:Nat → FuncId
 | 0 => 257
 | 1 => 287
 | 2 => 311
 | 3 => 332
 | 4 => 341
 | 5 => 344
 | _ => 349
theorem reader_all (br:Nat) (E:Int) (N:Nat):∀ (lv:Nat) (st:PSt),st.need lv ≤ N → lv ≤ 6 → ∀ w:World,RdAt w br E st →
  Calls Tryz.prog (lvF lv) #[.pointer (some ⟨br,0,none⟩)] w (PrPost w (fun w st => RdAt w br E st) br (prF E lv st)):=by
 induction N using Nat.strongRecOn with
 | ind N ih =>
  intro lv st hn hlv w h
  unfold PSt.need at hn
  have ih':∀ (lv':Nat) (st':PSt),st'.need lv' < N → lv' ≤ 6 → ∀ w:World,RdAt w br E st' → Calls Tryz.prog (lvF lv') #[.pointer (some ⟨br,0,none⟩)] w (PrPost w (fun w st => RdAt w br E st) br (prF E lv' st')) :=
   fun lv' st' h1 h2 w h3 => ih _ h1 lv' st' (Nat.le_refl _) h2 w h3
  unfold PSt.need at ih'
  match lv,hlv with
  | 0,_ => rw [prF_row E 0 st (by omega)]; exact lv_or (prF E 1) br E st w h (prF_len E 1) (fun st' w' hl hr => ih' 1 st' (by omega) (by omega) w' hr)
  | 1,_ => rw [prF_row E 1 st (by omega)]; exact lv_and (prF E 2) br E st w h (prF_len E 2) (fun st' w' hl hr => ih' 2 st' (by omega) (by omega) w' hr)
  | 2,_ => rw [prF_row E 2 st (by omega)]; exact lv_cmp (prF E 3) br E st w h (prF_len E 3) (fun st' w' hl hr => ih' 3 st' (by omega) (by omega) w' hr)
  | 3,_ => rw [prF_row E 3 st (by omega)]; exact lv_sum (prF E 4) br E st w h (prF_len E 4) (fun st' w' hl hr => ih' 4 st' (by omega) (by omega) w' hr)
  | 4,_ => rw [prF_row E 4 st (by omega)]; exact lv_term (prF E 5) br E st w h (prF_len E 5) (fun st' w' hl hr => ih' 5 st' (by omega) (by omega) w' hr)
  | 5,_ =>
   rw [prF_unary]
   exact lv_unary br E st w h (fun n hlt st' w' hl hr => ih' 5 st' (by omega) (by omega) w' hr) (fun st' w' hl hr => ih' 6 st' (by omega) (by omega) w' hr)
  | 6,_ =>
   have h0:Hid (∀ n,n < st.l.length → PrC 257 br E (prF E 0) n):=fun n hlt st' w' hl hr => ih' 0 st' (by omega) (by omega) w' hr
   rw [prF_one]
   unfold prOne
   by_cases hbad:st.bad.isSome = true
   ·rw [if_pos hbad]; exact one_bad br E st w h hbad
   ·rw [if_neg hbad]
    have hb:st.bad.isSome = false:=by simpa using hbad
    by_cases hnum:st.numB = true
    ·rw [if_pos hnum]; exact one_num br E st w h hb hnum
    ·rw [if_neg hnum]
     have hn2:st.numB = false:=by simpa using hnum
     by_cases h1:st.isB wKey = true
     ·rw [if_pos h1]; exact one_key br E st w h hb hn2 h1
     ·rw [if_neg h1]
      have g1:st.isB wKey = false:=by simpa using h1
      by_cases h2:st.isB wVal = true
      ·rw [if_pos h2]; exact one_val br E st w h hb hn2 g1 h2
      ·rw [if_neg h2]
       have g2:st.isB wVal = false:=by simpa using h2
       by_cases h3:st.isB wAcc = true
       ·rw [if_pos h3]; exact one_acc br E st w h hb hn2 g1 g2 h3
       ·rw [if_neg h3]
        have g3:st.isB wAcc = false:=by simpa using h3
        by_cases h4:st.isB [40] = true
        ·rw [if_pos h4]; exact one_open br E st w h hb hn2 g1 g2 g3 h4 h0
        ·rw [if_neg h4]
         have g4:st.isB [40] = false:=by simpa using h4
         by_cases h5:st.isB wIf = true
         ·rw [if_pos h5]; exact one_if br E st w h hb hn2 g1 g2 g3 g4 h5 h0
         ·rw [if_neg h5]; exact one_fails br E st w h hb hn2 g1 g2 g3 g4 (Lib.hid (by simpa using h5))
  | n + 7,h => omega
theorem or_c (br:Nat) (E:Int) (st:PSt) (w:World) (h:RdAt w br E st) :
  Calls Tryz.prog 257 #[.pointer (some ⟨br,0,none⟩)] w (PrPost w (fun w st => RdAt w br E st) br (prF E 0 st)):=reader_all br E _ 0 st (Nat.le_refl _) (by omega) w h
end Go.Proofs.YtpkijdkoiecpiaaGreatDoor
